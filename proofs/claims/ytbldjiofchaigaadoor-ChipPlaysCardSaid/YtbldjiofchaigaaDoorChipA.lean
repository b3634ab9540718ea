/- The walks of the chip's small methods. -/
import Derived.Test.YtbldjiofchaigaaDoorChipW
set_option linter.unusedVariables false
namespace Go.Proofs.YtbldjiofchaigaaDoor.ChipW
open Go.RowKit ChipP CopyW

theorem four_bad {d b : Nat} {die k : Int} (h : die < 0 ∨ (d : Int) ≤ die ∨ k < 0 ∨ (b : Int) ≤ k) : die < 0 ∨ (¬ die < 0 ∧ (d : Int) ≤ die) ∨ (¬ die < 0 ∧ ¬ (d : Int) ≤ die ∧ k < 0) ∨ (¬ die < 0 ∧ ¬ (d : Int) ≤ die ∧ ¬ k < 0 ∧ (b : Int) ≤ k) := by omega

section
variable {w : World} {O : Nat → Prop} {g : Geo} {s : St} {c bb : Nat} {pb : Nat → Nat} {qb : Nat → Nat → Nat}
theorem ChipL.b0 (h : ChipL w O g s c bb pb qb) : w.cell? ⟨c, 0, none⟩ = some (.bool s.off) := h.box.at_ (i := 0) rfl
theorem ChipL.b1 (h : ChipL w O g s c bb pb qb) : w.cell? ⟨c, 1, none⟩ = some (.int .i64 g.d) := h.box.at_ (i := 1) rfl
theorem ChipL.b2 (h : ChipL w O g s c bb pb qb) : w.cell? ⟨c, 2, none⟩ = some (.int .i64 g.b) := h.box.at_ (i := 2) rfl
theorem ChipL.b3 (h : ChipL w O g s c bb pb qb) : w.cell? ⟨c, 3, none⟩ = some (.int .i64 g.p) := h.box.at_ (i := 3) rfl
theorem ChipL.b4 (h : ChipL w O g s c bb pb qb) : w.cell? ⟨c, 4, none⟩ = some (.int .i64 g.y) := h.box.at_ (i := 4) rfl
theorem ChipL.b5 (h : ChipL w O g s c bb pb qb) : w.cell? ⟨c, 5, none⟩ = some (.slice (some ⟨bb, 0, none⟩) g.n g.n) := h.box.at_ (i := 5) rfl
theorem ChipL.a0 (h : ChipL w O g s c bb pb qb) {k : Nat} (hk : k < g.n) : w.cell? ⟨bb, k * 4, none⟩ = some (.slice (some ⟨pb k, 0, none⟩) g.p g.p) := by
  rw [← bcell0 g pb s.blk k]; exact h.arr.at_ (rowF_at _ (by omega))
theorem ChipL.a1 (h : ChipL w O g s c bb pb qb) {k : Nat} (hk : k < g.n) : w.cell? ⟨bb, k * 4 + 1, none⟩ = some (.int .i64 (s.blk k).nx) := by
  rw [← bcell1 g pb s.blk k]; exact h.arr.at_ (rowF_at _ (by omega))
theorem ChipL.a2 (h : ChipL w O g s c bb pb qb) {k : Nat} (hk : k < g.n) : w.cell? ⟨bb, k * 4 + 2, none⟩ = some (.int .i64 (s.blk k).wr) := by
  rw [← bcell2 g pb s.blk k]; exact h.arr.at_ (rowF_at _ (by omega))
theorem ChipL.a3 (h : ChipL w O g s c bb pb qb) {k : Nat} (hk : k < g.n) : w.cell? ⟨bb, k * 4 + 3, none⟩ = some (.bool (s.blk k).bad) := by
  rw [← bcell3 g pb s.blk k]; exact h.arr.at_ (rowF_at _ (by omega))
theorem ChipL.p0 (h : ChipL w O g s c bb pb qb) {k i : Nat} (hk : k < g.n) (hi : i < g.p) : w.cell? ⟨pb k, i, none⟩ = some (ChipW.pgs g (qb k i)) := (h.pgs k hk).at_ (rowF_at _ hi)
end

/-- What at says. -/
def AtPost (w : World) (g : Geo) (s : St) (bb : Nat) (die k : Int) (e : Ending) (w' : World) : Prop :=
  (∃ d, w' = w.drewN d) ∧ ((atF g s die k ≠ 0 ∧ e = .returned (.tuple #[.pointer none, errR (atF g s die k)])) ∨ (atF g s die k = 0 ∧ e = .returned (.tuple #[.pointer (some ⟨bb, ix g die k * 4, none⟩), .nilIface])))

set_option maxHeartbeats 2000000 in
theorem at_any {w : World} {O : Nat → Prop} {g : Geo} {s : St} {c bb : Nat} {pb : Nat → Nat} {qb : Nat → Nat → Nat} (h : ChipL w O g s c bb pb qb) (hg : g.Ok) (die k : Int) :
    Calls Tryd.prog 24 #[ptr c, .int .i64 die, .int .i64 k] w (AtPost w g s bb die k) := by
  have c0 := h.b0
  have c1 := h.b1
  have c2 := h.b2
  have c5 := h.b5
  unfold ptr
  cases hoff : s.off with
  | true =>
    have HF : Hid (atF g s die k = 7) := hide (by unfold atF; rw [if_pos hoff])
    rw [hoff] at c0
    clear h hoff c1 c2 c5
    go_enter Tryd.func24, Tryd.ntmps24
    go_wp2_with fail
    go_ret2
    exact ⟨⟨0, rfl⟩, .inl ⟨by rw [HF.out]; decide, by rw [HF.out]; rfl⟩⟩
  | false =>
    rw [hoff] at c0
    by_cases hr : die < 0 ∨ (g.d : Int) ≤ die ∨ k < 0 ∨ (g.b : Int) ≤ k
    · have HF : Hid (atF g s die k = 1) := hide (by unfold atF; rw [if_neg (by rw [hoff]; decide), if_pos hr])
      have hbad := four_bad hr
      generalize g.d = D at *
      generalize g.b = Bn at *
      clear h hoff hr c5
      rcases hbad with hbad | hbad | hbad | hbad
      · have d1 : decide (die < 0) = true := decide_eq_true (by omega)
        go_enter Tryd.func24, Tryd.ntmps24
        go_wp2_with fail
        go_ret2
        exact ⟨⟨0, rfl⟩, .inl ⟨by rw [HF.out]; decide, by rw [HF.out]; rfl⟩⟩
      · have d1 : decide (die < 0) = false := decide_eq_false (by omega)
        have d2 : decide (die ≥ (D : Int)) = true := decide_eq_true (by omega)
        go_enter Tryd.func24, Tryd.ntmps24
        go_wp2_with fail
        go_ret2
        exact ⟨⟨0, rfl⟩, .inl ⟨by rw [HF.out]; decide, by rw [HF.out]; rfl⟩⟩
      · have d1 : decide (die < 0) = false := decide_eq_false (by omega)
        have d2 : decide (die ≥ (D : Int)) = false := decide_eq_false (by omega)
        have d3 : decide (k < 0) = true := decide_eq_true (by omega)
        go_enter Tryd.func24, Tryd.ntmps24
        go_wp2_with fail
        go_ret2
        exact ⟨⟨0, rfl⟩, .inl ⟨by rw [HF.out]; decide, by rw [HF.out]; rfl⟩⟩
      · have d1 : decide (die < 0) = false := decide_eq_false (by omega)
        have d2 : decide (die ≥ (D : Int)) = false := decide_eq_false (by omega)
        have d3 : decide (k < 0) = false := decide_eq_false (by omega)
        have d4 : decide (k ≥ (Bn : Int)) = true := decide_eq_true (by omega)
        go_enter Tryd.func24, Tryd.ntmps24
        go_wp2_with fail
        go_ret2
        exact ⟨⟨0, rfl⟩, .inl ⟨by rw [HF.out]; decide, by rw [HF.out]; rfl⟩⟩
    · have HF : Hid (atF g s die k = 0) := hide (by unfold atF; rw [if_neg (by rw [hoff]; decide), if_neg hr])
      obtain ⟨D, rfl⟩ : ∃ D : Nat, die = D := ⟨die.toNat, by omega⟩
      obtain ⟨K, rfl⟩ : ∃ K : Nat, k = K := ⟨k.toNat, by omega⟩
      have hn64 := hg.n64
      have hlt : ix g (D : Int) (K : Int) < g.n := ix_lt (by omega) (by omega) (by omega) (by omega)
      have e1 : (D : Int) * (g.b : Int) = ((D * g.b : Nat) : Int) := (Int.natCast_mul D g.b).symm
      have e2 : ix g (D : Int) (K : Int) = D * g.b + K := rfl
      rw [e2] at hlt
      obtain ⟨m, hm⟩ : ∃ m, m = D * g.b := ⟨_, rfl⟩
      rw [← hm] at e1 hlt e2
      have HE2 := hide e2
      have d1 : decide ((D : Int) < 0) = false := decide_eq_false (by omega)
      have d2 : decide (g.d ≤ D) = false := decide_eq_false (by omega)
      have d3 : decide ((K : Int) < 0) = false := decide_eq_false (by omega)
      have d4 : decide (g.b ≤ K) = false := decide_eq_false (by omega)
      have q1 : IntKind.i64.wrap ((D : Int) * (g.b : Int)) = (m : Int) := by rw [e1, IntKind.wrap_i64]; omega
      have q2 : IntKind.i64.wrap ((m : Int) + (K : Int)) = ((m + K : Nat) : Int) := by rw [IntKind.wrap_i64]; omega
      have q3 : ((m + K : Nat) : Int) < (g.n : Int) := by omega
      generalize m + K = M at *
      generalize g.n = N at *
      clear h hoff hr e1 e2 hm
      go_enter Tryd.func24, Tryd.ntmps24
      go_wp2_with fail
      go_region
      go_wp2_with fail
      go_ret2
      exact ⟨⟨1, rfl⟩, .inr ⟨HF.out, by rw [HE2.out]; rfl⟩⟩

theorem on_any {w : World} {O : Nat → Prop} {g : Geo} {s : St} {c bb : Nat} {pb : Nat → Nat} {qb : Nat → Nat → Nat} (h : ChipL w O g s c bb pb qb) :
    Calls Tryd.prog 12 #[ptr c] w fun e w' => e = .returned (.tuple #[]) ∧ ChipL w' O g (onS s) c bb pb qb ∧ Keep O w w' := by
  have c0 := h.b0
  have f0 := h.box.free 0
  have HL := hide (h.setOff false)
  have HK := hide (Keep.set (O := O) w (p := ⟨c, 0, none⟩) h.oc (.bool false))
  unfold ptr
  clear h
  go_enter Tryd.func12, Tryd.ntmps12
  go_wp2_with fail
  go_end0
  exact ⟨rfl, HL.out, HK.out⟩
theorem off_any {w : World} {O : Nat → Prop} {g : Geo} {s : St} {c bb : Nat} {pb : Nat → Nat} {qb : Nat → Nat → Nat} (h : ChipL w O g s c bb pb qb) :
    Calls Tryd.prog 19 #[ptr c] w fun e w' => e = .returned (.bool s.off) ∧ w' = w := by
  have c0 := h.b0
  unfold ptr
  clear h
  go_enter Tryd.func19, Tryd.ntmps19
  go_wp2_with fail
  go_ret
  exact ⟨rfl, rfl⟩
theorem end_any {w : World} {O : Nat → Prop} {g : Geo} {s : St} {c bb : Nat} {pb : Nat → Nat} {qb : Nat → Nat → Nat} (h : ChipL w O g s c bb pb qb) (hoff : s.off = false) (fault : Int) :
    Calls Tryd.prog 25 #[ptr c, .int .i64 fault] w fun e w' => e = .returned (errV (endF fault)) ∧ ChipL w' O g { s with off := decide (fault = 2) } c bb pb qb ∧ Keep O w w' := by
  have c0 := h.b0
  have f0 := h.box.free 0
  have HH := hide h
  have HO := hide hoff
  unfold ptr
  clear h hoff
  have hs : Hid (({ s with off := false } : St) = s) := hide (by rw [← HO.out])
  by_cases h1 : fault = 1
  · subst h1
    go_enter Tryd.func25, Tryd.ntmps25
    go_wp2_with fail
    go_ret
    exact ⟨rfl, by rw [show decide ((1 : Int) = 2) = false from rfl, hs.out]; exact HH.out, Keep.refl _ _⟩
  · by_cases h2 : fault = 2
    · subst h2
      have HL := hide (HH.out.setOff true)
      have HK := hide (Keep.set (O := O) w (p := ⟨c, 0, none⟩) HH.out.oc (.bool true))
      go_enter Tryd.func25, Tryd.ntmps25
      go_wp2_with fail
      go_ret
      exact ⟨rfl, HL.out, HK.out⟩
    · have d1 : (fault == 1) = false := by simpa using h1
      have d2 : (fault == 2) = false := by simpa using h2
      have HE : Hid (endF fault = 0) := hide (by unfold endF; rw [if_neg h1, if_neg h2])
      have HD : Hid (decide (fault = 2) = false) := hide (decide_eq_false h2)
      clear h1 h2
      go_enter Tryd.func25, Tryd.ntmps25
      go_wp2_with fail
      go_ret
      exact ⟨by rw [HE.out]; rfl, by rw [HD.out, hs.out]; exact HH.out, Keep.refl _ _⟩

def nxF (g : Geo) (s : St) (die k : Int) : Int := if atF g s die k = 0 then ((s.blk (ix g die k)).nx : Int) else 0
theorem next_any {w : World} {O : Nat → Prop} {g : Geo} {s : St} {c bb : Nat} {pb : Nat → Nat} {qb : Nat → Nat → Nat} (h : ChipL w O g s c bb pb qb) (hg : g.Ok) (die k : Int) :
    Calls Tryd.prog 10 #[ptr c, .int .i64 die, .int .i64 k] w fun e w' => e = .returned (.tuple #[.int .i64 (nxF g s die k), errV (atF g s die k)]) ∧ ∃ d, w' = w.drewN d := by
  have HA := hide (at_any h hg die k)
  have HH := hide h
  unfold ptr at HA ⊢
  clear h
  go_enter Tryd.func10, Tryd.ntmps10
  go_wp2_with fail
  refine HA.out.mono ?_
  rintro e w' ⟨⟨d, rfl⟩, ⟨hf, rfl⟩ | ⟨hf, rfl⟩⟩
  · have HF := hide hf
    have HX : Hid (nxF g s die k = 0) := hide (if_neg hf)
    clear hf HA
    unfold errR
    go_wp2_with fail
    go_ret2
    exact ⟨by rw [HX.out, errV_ne HF.out]; rfl, d, rfl⟩
  · have hz := at_zero hf
    have a1 := HH.out.a1 (ix_lt hz.2.1 hz.2.2.1 hz.2.2.2.1 hz.2.2.2.2)
    have HF := hide hf
    have HX : Hid (nxF g s die k = ((s.blk (ix g die k)).nx : Int)) := hide (if_pos hf)
    clear hz hf HA
    generalize ix g die k = M at *
    go_wp2_with fail
    go_ret2
    exact ⟨by rw [HX.out, HF.out]; rfl, d, rfl⟩
def wrF (g : Geo) (s : St) (die k : Int) : Int := if atF g s die k = 0 then ((s.blk (ix g die k)).wr : Int) else 0
theorem wear_any {w : World} {O : Nat → Prop} {g : Geo} {s : St} {c bb : Nat} {pb : Nat → Nat} {qb : Nat → Nat → Nat} (h : ChipL w O g s c bb pb qb) (hg : g.Ok) (die k : Int) :
    Calls Tryd.prog 18 #[ptr c, .int .i64 die, .int .i64 k] w fun e w' => e = .returned (.tuple #[.int .i64 (wrF g s die k), errV (atF g s die k)]) ∧ ∃ d, w' = w.drewN d := by
  have HA := hide (at_any h hg die k)
  have HH := hide h
  unfold ptr at HA ⊢
  clear h
  go_enter Tryd.func18, Tryd.ntmps18
  go_wp2_with fail
  refine HA.out.mono ?_
  rintro e w' ⟨⟨d, rfl⟩, ⟨hf, rfl⟩ | ⟨hf, rfl⟩⟩
  · have HF := hide hf
    have HX : Hid (wrF g s die k = 0) := hide (if_neg hf)
    clear hf HA
    unfold errR
    go_wp2_with fail
    go_ret2
    exact ⟨by rw [HX.out, errV_ne HF.out]; rfl, d, rfl⟩
  · have hz := at_zero hf
    have a1 := HH.out.a2 (ix_lt hz.2.1 hz.2.2.1 hz.2.2.2.1 hz.2.2.2.2)
    have HF := hide hf
    have HX : Hid (wrF g s die k = ((s.blk (ix g die k)).wr : Int)) := hide (if_pos hf)
    clear hz hf HA
    generalize ix g die k = M at *
    go_wp2_with fail
    go_ret2
    exact ⟨by rw [HX.out, HF.out]; rfl, d, rfl⟩
def badF (g : Geo) (s : St) (die k : Int) : Bool := if atF g s die k = 0 then (s.blk (ix g die k)).bad else false
theorem bad_any {w : World} {O : Nat → Prop} {g : Geo} {s : St} {c bb : Nat} {pb : Nat → Nat} {qb : Nat → Nat → Nat} (h : ChipL w O g s c bb pb qb) (hg : g.Ok) (die k : Int) :
    Calls Tryd.prog 16 #[ptr c, .int .i64 die, .int .i64 k] w fun e w' => e = .returned (.tuple #[.bool (badF g s die k), errV (atF g s die k)]) ∧ ∃ d, w' = w.drewN d := by
  have HA := hide (at_any h hg die k)
  have HH := hide h
  unfold ptr at HA ⊢
  clear h
  go_enter Tryd.func16, Tryd.ntmps16
  go_wp2_with fail
  refine HA.out.mono ?_
  rintro e w' ⟨⟨d, rfl⟩, ⟨hf, rfl⟩ | ⟨hf, rfl⟩⟩
  · have HF := hide hf
    have HX : Hid (badF g s die k = false) := hide (if_neg hf)
    clear hf HA
    unfold errR
    go_wp2_with fail
    go_ret2
    exact ⟨by rw [HX.out, errV_ne HF.out]; rfl, d, rfl⟩
  · have hz := at_zero hf
    have a1 := HH.out.a3 (ix_lt hz.2.1 hz.2.2.1 hz.2.2.2.1 hz.2.2.2.2)
    have HF := hide hf
    have HX : Hid (badF g s die k = (s.blk (ix g die k)).bad) := hide (if_pos hf)
    clear hz hf HA
    generalize ix g die k = M at *
    go_wp2_with fail
    go_ret2
    exact ⟨by rw [HX.out, HF.out]; rfl, d, rfl⟩
end Go.Proofs.YtbldjiofchaigaaDoor.ChipW
