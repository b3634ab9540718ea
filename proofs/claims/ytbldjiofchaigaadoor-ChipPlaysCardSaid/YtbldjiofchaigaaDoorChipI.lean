/- What a round over a script of calls on a chip keeps. -/
import Derived.Test.YtbldjiofchaigaaDoorChipL
set_option linter.unusedVariables false
namespace Go.Proofs.YtbldjiofchaigaaDoor.ChipW
open Go.RowKit ChipP CopyW ToldW

/-- Where a loop over a script stands: i calls are made. -/
structure LI (w1 W : World) (c : Nat) (g : Geo) (s : St) (i : Nat) : Prop where
  chip : ChipAt W (fun j => j < w1.heap.size) c g s
  low : Below w1.heap.size w1 W
  wr : ∀ k, (s.blk k).wr ≤ i
  nx : ∀ k, (s.blk k).nx ≤ g.p
/-- Within a round: the call lies in a box of its own. -/
structure RI (w1 W : World) (gb c : Nat) (g : Geo) (s : St) (i : Nat) (o : COp) : Prop where
  chip : ChipAt W (fun j => j < w1.heap.size ∨ j = gb) c g s
  box : Bk W gb 35 (copC o)
  low : Below w1.heap.size w1 W
  wr : ∀ k, (s.blk k).wr ≤ i
  nx : ∀ k, (s.blk k).nx ≤ g.p
section
variable {w1 W W' : World} {gb c : Nat} {g : Geo} {s s' : St} {i : Nat} {o : COp}
theorem RI.start (h : LI w1 W c g s i) (o : COp) : RI w1 (W.alloc (.cells (copC o) 35)) W.heap.size c g s i o :=
  ⟨(h.chip.more (fun j hj => hj.imp id (fun e => by omega))).below ((Below.refl _ _).alloc (Nat.le_refl _) _), Bk.new _ _ _, h.low.trans ((Below.refl _ _).alloc h.low.size _), h.wr, h.nx⟩
theorem RI.start2 (h : LI w1 W c g s i) (o : COp) : RI w1 (W.alloc (.cells #[.int .i64 o.kind, .int .i64 o.die, .int .i64 o.blk, .int .i64 o.page, .slice o.A o.l.length o.c, .int .i64 o.fault] 35)) W.heap.size c g s i o := RI.start h o
theorem RI.bound (h : RI w1 W gb c g s i o) : ∀ j, (j < w1.heap.size ∨ j = gb) → j < W.heap.size := fun j hj => hj.elim (fun h1 => Nat.lt_of_lt_of_le h1 h.low.size) (fun e => e ▸ h.box.lt)
theorem RI.y0 (h : RI w1 W gb c g s i o) : W.cell? ⟨gb, 0, none⟩ = some (.int .i64 o.kind) := h.box.at_ (i := 0) rfl
theorem RI.y1 (h : RI w1 W gb c g s i o) : W.cell? ⟨gb, 1, none⟩ = some (.int .i64 o.die) := h.box.at_ (i := 1) rfl
theorem RI.y2 (h : RI w1 W gb c g s i o) : W.cell? ⟨gb, 2, none⟩ = some (.int .i64 o.blk) := h.box.at_ (i := 2) rfl
theorem RI.y3 (h : RI w1 W gb c g s i o) : W.cell? ⟨gb, 3, none⟩ = some (.int .i64 o.page) := h.box.at_ (i := 3) rfl
theorem RI.y4 (h : RI w1 W gb c g s i o) : W.cell? ⟨gb, 4, none⟩ = some (.slice o.A o.l.length o.c) := h.box.at_ (i := 4) rfl
theorem RI.y5 (h : RI w1 W gb c g s i o) : W.cell? ⟨gb, 5, none⟩ = some (.int .i64 o.fault) := h.box.at_ (i := 5) rfl
theorem RI.end_ (h : RI w1 W gb c g s i o) : LI w1 W c g s i := ⟨h.chip.more (fun j hj => .inl (.inl hj)), h.low, h.wr, h.nx⟩
theorem LI.more (h : LI w1 W c g s i) : LI w1 W c g s (i + 1) := { h with wr := fun k => Nat.le_succ_of_le (h.wr k) }
theorem RI.drewN (h : RI w1 W gb c g s i o) (n : Nat) : RI w1 (W.drewN n) gb c g s i o := ⟨h.chip.drewN n, h.box.drewN n, below_drewN h.low n, h.wr, h.nx⟩
theorem RI.below (h : RI w1 W gb c g s i o) (hb : Below W.heap.size W W') : RI w1 W' gb c g s i o := ⟨h.chip.below hb, h.box.below hb h.box.lt, h.low.trans (hb.mono h.low.size), h.wr, h.nx⟩
theorem RI.keep (h : RI w1 W gb c g s i o) (hc : ChipAt W' (fun j => j < w1.heap.size ∨ j = gb) c g s') (hk : Keep (fun j => j < w1.heap.size ∨ j = gb) W W') (hw : ∀ k, (s'.blk k).wr ≤ i) (hn : ∀ k, (s'.blk k).nx ≤ g.p) : RI w1 W' gb c g s' i o :=
  ⟨hc, hk.bk h.box (.inr rfl), h.low.trans (hk.below (fun j hj => .inl hj) h.low.size), hw, hn⟩
end

section
variable {w1 W W' : World} {gb c : Nat} {g : Geo} {s s' : St} {i : Nat} {o : COp}
/-- An erase may wear. -/
theorem RI.keepE (h : RI w1 W gb c g s i o) (hc : ChipAt W' (fun j => j < w1.heap.size ∨ j = gb) c g s') (hk : Keep (fun j => j < w1.heap.size ∨ j = gb) W W') (hw : ∀ k, (s'.blk k).wr ≤ i + 1) (hn : ∀ k, (s'.blk k).nx ≤ g.p) : RI w1 W' gb c g s' (i + 1) o :=
  ⟨hc, hk.bk h.box (.inr rfl), h.low.trans (hk.below (fun j hj => .inl hj) h.low.size), hw, hn⟩
end
/-- A script's call in memory. -/
theorem cop_cells {w W : World} {B b off m : Nat} {o : COp} (hb : Below B w W) (hlt : b < B) (h : ∀ j u, (copC o)[j]? = some u → w.cell? ⟨b, off + m * 6 + j, none⟩ = some u) : W.cell? ⟨b, off + m * 6, none⟩ = some (.int .i64 o.kind) ∧ W.cell? ⟨b, off + m * 6 + 1, none⟩ = some (.int .i64 o.die) ∧ W.cell? ⟨b, off + m * 6 + 2, none⟩ = some (.int .i64 o.blk) ∧ W.cell? ⟨b, off + m * 6 + 3, none⟩ = some (.int .i64 o.page) ∧ W.cell? ⟨b, off + m * 6 + 4, none⟩ = some (.slice o.A o.l.length o.c) ∧ W.cell? ⟨b, off + m * 6 + 5, none⟩ = some (.int .i64 o.fault) :=
  ⟨(hb.cell hlt).trans (h 0 _ rfl), (hb.cell hlt).trans (h 1 _ rfl), (hb.cell hlt).trans (h 2 _ rfl), (hb.cell hlt).trans (h 3 _ rfl), (hb.cell hlt).trans (h 4 _ rfl), (hb.cell hlt).trans (h 5 _ rfl)⟩
theorem nx_ok {g : Geo} {s : St} {die k : Int} (h : atF g s die k = 0) : nxF g s die k = ((s.blk (ix g die k)).nx : Int) := if_pos h
theorem wr_ok {g : Geo} {s : St} {die k : Int} (h : atF g s die k = 0) : wrF g s die k = ((s.blk (ix g die k)).wr : Int) := if_pos h
theorem bad_ok {g : Geo} {s : St} {die k : Int} (h : atF g s die k = 0) : badF g s die k = (s.blk (ix g die k)).bad := if_pos h
/-! What the calls do to the numbers. -/
section
variable {g : Geo} {s : St}
theorem prog_zero {die k page : Int} {n : Nat} {fault : Int} (h : progF g s die k page n fault = 0) : atF g s die k = 0 ∧ 0 ≤ page ∧ page < g.p ∧ 0 ≤ fault ∧ fault ≤ 2 ∧ n = g.y ∧ (s.blk (ix g die k)).bad = false ∧ page = (s.blk (ix g die k)).nx := by
  unfold progF at h
  by_cases h1 : atF g s die k = 0
  · rw [if_neg (fun h => h h1)] at h
    refine ⟨h1, ?_⟩
    by_cases h2 : page < 0 ∨ (g.p : Int) ≤ page ∨ fault < 0 ∨ 2 < fault
    · rw [if_pos h2] at h; omega
    · rw [if_neg h2] at h
      by_cases h3 : n ≠ g.y
      · rw [if_pos h3] at h; omega
      · rw [if_neg h3] at h
        by_cases h4 : (s.blk (ix g die k)).bad = true
        · rw [if_pos h4] at h; omega
        · rw [if_neg h4] at h
          by_cases h5 : page ≠ (s.blk (ix g die k)).nx
          · rw [if_pos h5] at h; omega
          · exact ⟨by omega, by omega, by omega, by omega, by omega, by simpa using h4, by omega⟩
  · rw [if_pos h1] at h; exact absurd h h1
theorem progE_nil {die k page : Int} {n : Nat} {fault : Int} (h : progE g s die k page n fault = 0) : progF g s die k page n fault = 0 := by
  unfold progE at h
  by_cases h1 : progF g s die k page n fault = 0
  · exact h1
  · rw [if_pos h1] at h; exact absurd h h1
theorem prog_yes {die k page : Int} {l : List UInt8} {fault : Int} (h : progF g s die k page l.length fault = 0) : progS g s die k page l fault = ⟨decide (fault = 2), upd s.blk (ix g die k) (progB (s.blk (ix g die k)) page.toNat l fault)⟩ := if_neg (fun h1 => h1 h)
theorem prog_no {die k page : Int} {l : List UInt8} {fault : Int} (h : progF g s die k page l.length fault ≠ 0) : progS g s die k page l fault = s := if_pos h
theorem er_zero {die k fault : Int} (h : erF g s die k fault = 0) : atF g s die k = 0 ∧ 0 ≤ fault ∧ fault ≤ 2 ∧ (s.blk (ix g die k)).bad = false := by
  unfold erF at h
  by_cases h1 : atF g s die k = 0
  · rw [if_neg (fun h => h h1)] at h
    refine ⟨h1, ?_⟩
    by_cases h2 : fault < 0 ∨ 2 < fault
    · rw [if_pos h2] at h; omega
    · rw [if_neg h2] at h
      by_cases h4 : (s.blk (ix g die k)).bad = true
      · rw [if_pos h4] at h; omega
      · exact ⟨by omega, by omega, by simpa using h4⟩
  · rw [if_pos h1] at h; exact absurd h h1
theorem er_yes {die k fault : Int} (h : erF g s die k fault = 0) : erS g s die k fault = ⟨decide (fault = 2), upd s.blk (ix g die k) (erB g (s.blk (ix g die k)) fault)⟩ := if_neg (fun h1 => h1 h)
theorem er_no {die k fault : Int} (h : erF g s die k fault ≠ 0) : erS g s die k fault = s := if_pos h
theorem prog_wr (die k page : Int) (l : List UInt8) (fault : Int) (j : Nat) : ((progS g s die k page l fault).blk j).wr = (s.blk j).wr := by
  by_cases h : progF g s die k page l.length fault = 0
  · rw [prog_yes h]
    show (upd s.blk (ix g die k) _ j).wr = _
    by_cases e : j = ix g die k
    · rw [e, upd_eq]; rfl
    · rw [upd_ne _ _ _ _ e]
  · rw [prog_no h]
theorem prog_bad_ (die k page : Int) (l : List UInt8) (fault : Int) (j : Nat) : ((progS g s die k page l fault).blk j).bad = (s.blk j).bad := by
  by_cases h : progF g s die k page l.length fault = 0
  · rw [prog_yes h]
    show (upd s.blk (ix g die k) _ j).bad = _
    by_cases e : j = ix g die k
    · rw [e, upd_eq]; rfl
    · rw [upd_ne _ _ _ _ e]
  · rw [prog_no h]
theorem prog_nx (die k page : Int) (l : List UInt8) (fault : Int) (hn : ∀ j, (s.blk j).nx ≤ g.p) (j : Nat) : ((progS g s die k page l fault).blk j).nx ≤ g.p := by
  by_cases h : progF g s die k page l.length fault = 0
  · rw [prog_yes h]
    show (upd s.blk (ix g die k) _ j).nx ≤ _
    by_cases e : j = ix g die k
    · rw [e, upd_eq]
      have hz := prog_zero h
      show (s.blk (ix g die k)).nx + 1 ≤ g.p
      omega
    · rw [upd_ne _ _ _ _ e]; exact hn j
  · rw [prog_no h]; exact hn j
theorem er_wr (die k fault : Int) (i : Nat) (hw : ∀ j, (s.blk j).wr ≤ i) (j : Nat) : ((erS g s die k fault).blk j).wr ≤ i + 1 := by
  by_cases h : erF g s die k fault = 0
  · rw [er_yes h]
    show (upd s.blk (ix g die k) _ j).wr ≤ _
    by_cases e : j = ix g die k
    · rw [e, upd_eq]
      have := hw (ix g die k)
      unfold erB
      by_cases h0 : fault = 0
      · rw [if_pos h0]; show _ + 1 ≤ _; omega
      · rw [if_neg h0]
        by_cases h1 : fault = 1
        · rw [if_pos h1]; show (s.blk (ix g die k)).wr ≤ _; omega
        · rw [if_neg h1]; show _ + 1 ≤ _; omega
    · rw [upd_ne _ _ _ _ e]; have := hw j; omega
  · rw [er_no h]; have := hw j; omega
theorem er_nx (die k fault : Int) (hn : ∀ j, (s.blk j).nx ≤ g.p) (j : Nat) : ((erS g s die k fault).blk j).nx ≤ g.p := by
  by_cases h : erF g s die k fault = 0
  · rw [er_yes h]
    show (upd s.blk (ix g die k) _ j).nx ≤ _
    by_cases e : j = ix g die k
    · rw [e, upd_eq]
      have := hn (ix g die k)
      unfold erB
      by_cases h0 : fault = 0
      · rw [if_pos h0]; exact Nat.zero_le _
      · rw [if_neg h0]
        by_cases h1 : fault = 1
        · rw [if_pos h1]; exact this
        · rw [if_neg h1]; exact Nat.le_refl _
    · rw [upd_ne _ _ _ _ e]; exact hn j
  · rw [er_no h]; exact hn j
/-- The same place, in range. -/
theorem at_same {s s' : St} (h : s.off = s'.off) (die k : Int) : atF g s die k = atF g s' die k := by unfold atF; rw [h]
theorem at_on {s : St} {die k : Int} (h1 : 0 ≤ die) (h2 : die < g.d) (h3 : 0 ≤ k) (h4 : k < g.b) (ho : s.off = false) : atF g s die k = 0 := by
  unfold atF
  rw [if_neg (by rw [ho]; decide), if_neg (by omega)]
/-- Another block's numbers are as they were. -/
theorem prog_far {od ob die k page : Int} {l : List UInt8} {fault : Int} (h1 : 0 ≤ die) (h2 : die < g.d) (h3 : 0 ≤ k) (h4 : k < g.b) (hne : ¬ (od = die ∧ ob = k)) : (progS g s od ob page l fault).blk (ix g die k) = s.blk (ix g die k) := by
  by_cases h : progF g s od ob page l.length fault = 0
  · rw [prog_yes h]
    have hz := at_zero (prog_zero h).1
    refine upd_ne _ _ _ _ (fun e => ?_)
    have := ix_inj h1 h3 h4 hz.2.1 hz.2.2.2.1 hz.2.2.2.2 e
    exact hne ⟨this.1.symm, this.2.symm⟩
  · rw [prog_no h]
theorem er_far {od ob die k fault : Int} (h1 : 0 ≤ die) (h2 : die < g.d) (h3 : 0 ≤ k) (h4 : k < g.b) (hne : ¬ (od = die ∧ ob = k)) : (erS g s od ob fault).blk (ix g die k) = s.blk (ix g die k) := by
  by_cases h : erF g s od ob fault = 0
  · rw [er_yes h]
    have hz := at_zero (er_zero h).1
    refine upd_ne _ _ _ _ (fun e => ?_)
    have := ix_inj h1 h3 h4 hz.2.1 hz.2.2.2.1 hz.2.2.2.2 e
    exact hne ⟨this.1.symm, this.2.symm⟩
  · rw [er_no h]
end
end Go.Proofs.YtbldjiofchaigaaDoor.ChipW
