/- The walk of the block's fill. -/
import Derived.Test.YtbldjiofchaigaaDoorChipA
import Derived.Test.YtbldjiofchaigaaDoorRepeat
import Derived.Deep.RegionHeld3
set_option linter.unusedVariables false
namespace Go.Proofs.YtbldjiofchaigaaDoor.ChipW
open Go.RowKit ChipP CopyW RepW

/-- Where fill stands: j pages are made anew. -/
def FS (w W : World) (pk p y : Nat) (x : UInt8) (vs : Nat → Value) (q : Nat → Nat) (j : Nat) : Prop :=
  Bk W pk 33 (rowF p (fun i => if i < j then .slice (some ⟨q i, 0, none⟩) y y else vs i)) ∧ (∀ i, i < j → w.heap.size ≤ q i ∧ q i < W.heap.size ∧ ∃ tl : List Value, Bk W (q i) 5 (u8v (List.replicate y x) ++ tl).toArray) ∧
    (∀ i i', i < j → i' < j → q i = q i' → i = i') ∧ w.grownBy W (some pk)
theorem grown_trans {a b c : World} {r : Option Nat} (h : a.grownBy b r) (k : b.grownBy c r) : a.grownBy c r :=
  ⟨k.os.trans h.os, k.tape.trans h.tape, k.output.trans h.output, Nat.le_trans h.size k.size, fun j hj hr => (k.block j (Nat.lt_of_lt_of_le hj h.size) hr).trans (h.block j hj hr)⟩
theorem grown_of_below {a b : World} (r : Option Nat) (h : Below a.heap.size a b) : a.grownBy b r := ⟨h.os, h.tape, h.output, h.size, fun j hj _ => h.block j hj⟩
theorem grown_set (w : World) (p : Addr) (u : Value) : w.grownBy (w.setCell p u) (some p.block) :=
  have h := (Below.refl 0 w).setCell (p := p) (Nat.zero_le _) u
  ⟨h.os, h.tape, h.output, h.size, fun j _ hr => Below.heap_setCell w p u j (fun e => hr (by rw [e]))⟩
/-- One page more. -/
theorem FS.step {w W W5 : World} {pk p y : Nat} {x : UInt8} {vs : Nat → Value} {q : Nat → Nat} {j : Nat} (h : FS w W pk p y x vs q j) (hj : j < p) {W0 : World} (hb : Below W.heap.size W W0) (hf : Fill W0 W5 W0.heap.size y y x) :
    FS w (W5.setCell ⟨pk, j, none⟩ (.slice (some ⟨W0.heap.size, 0, none⟩) y y)) pk p y x vs (upd q j W0.heap.size) (j + 1) := by
  obtain ⟨h1, h2, h3, h4⟩ := h
  obtain ⟨tl, ht, hk, hb5⟩ := hf
  have hb' : Below W.heap.size W W5 := hb.trans (hb5.mono hb.size)
  have hlt : pk < W.heap.size := h1.lt
  refine ⟨?_, fun i hi => ?_, fun i i' hi hi' e => ?_, ?_⟩
  · have h5 := (h1.below hb' h1.lt).put j (.slice (some ⟨W0.heap.size, 0, none⟩) y y)
    rw [rowF_set] at h5
    rw [rowF_congr (h := upd (fun i => if i < j then Value.slice (some ⟨q i, 0, none⟩) y y else vs i) j (.slice (some ⟨W0.heap.size, 0, none⟩) y y)) (fun i _ => by
      by_cases e : i = j
      · subst e
        rw [if_pos (by omega), upd_eq, upd_eq]
      · rw [upd_ne _ _ _ _ e, upd_ne _ _ _ _ e]
        by_cases hl : i < j
        · rw [if_pos (by omega), if_pos hl]
        · rw [if_neg (by omega), if_neg hl])]
    exact h5
  · by_cases e : i = j
    · subst e
      rw [upd_eq]
      refine ⟨Nat.le_trans h4.size hb.size, ?_, tl, hk.far (by have := hb.size; show W0.heap.size ≠ pk; omega) _⟩
      have := hk.lt
      simpa using this
    · rw [upd_ne _ _ _ _ e]
      obtain ⟨a1, a2, t2, a3⟩ := h2 i (by omega)
      refine ⟨a1, ?_, t2, ((a3.below hb' a3.lt).far (fun e => ?_) _)⟩
      · have := hb'.size
        simp
        omega
      · exact bk_ne a3 h1 (by decide) e
  · by_cases e1 : i = j <;> by_cases e2 : i' = j
    · rw [e1, e2]
    · rw [e1, upd_eq, upd_ne _ _ _ _ e2] at e
      have := (h2 i' (by omega)).2.1
      have := hb.size
      omega
    · rw [e2, upd_eq, upd_ne _ _ _ _ e1] at e
      have := (h2 i (by omega)).2.1
      have := hb.size
      omega
    · rw [upd_ne _ _ _ _ e1, upd_ne _ _ _ _ e2] at e
      exact h3 i i' (by omega) (by omega) e
  · exact grown_trans (grown_trans h4 (grown_of_below _ hb')) (grown_set _ _ _)

/-- What fill leaves. -/
def FillPost (w : World) (pk p y : Nat) (x : UInt8) (e : Ending) (w' : World) : Prop :=
  e = .returned (.tuple #[]) ∧ ∃ q : Nat → Nat, Bk w' pk 33 (rowF p (fun i => .slice (some ⟨q i, 0, none⟩) y y)) ∧ (∀ i, i < p → w.heap.size ≤ q i ∧ ∃ tl : List Value, Bk w' (q i) 5 (u8v (List.replicate y x) ++ tl).toArray) ∧
    (∀ i i', i < p → i' < p → q i = q i' → i = i') ∧ w.grownBy w' (some pk)

set_option maxRecDepth 20000 in
set_option maxHeartbeats 2000000 in
theorem fill_any (bb k4 pk p y : Nat) (x : UInt8) (vs : Nat → Value) (w : World) (hc : w.cell? ⟨bb, k4, none⟩ = some (.slice (some ⟨pk, 0, none⟩) p p)) (hbk : Bk w pk 33 (rowF p vs)) (hvs : ∀ i, i < p → ∃ A cc, vs i = .slice A y cc)
    (h8 : 8 ≤ y) (h256 : y ≤ 256) (hp : p ≤ 16) (hne : bb ≠ pk) :
    Calls Tryd.prog 23 #[.pointer (some ⟨bb, k4, none⟩), .int .u8 (x.toNat : Int)] w (FillPost w pk p y x) := by
  have H0 : Hid (FS w w pk p y x vs (fun _ => 0) 0) := hide ⟨by
    rw [rowF_congr (h := vs) (fun i _ => if_neg (Nat.not_lt_zero i))]
    exact hbk, fun i hi => absurd hi (Nat.not_lt_zero i), fun i _ hi => absurd hi (Nat.not_lt_zero i), grown_refl _ _⟩
  have HC := hide hc
  have HVS := hide hvs
  have HNE := hide hne
  have HX : Hid (u8v [x] = [.int .u8 (x.toNat : Int)]) := hide rfl
  clear hbk hvs hne
  go_enter Tryd.func23, Tryd.ntmps23
  go_wp2_with fail
  clear hc
  go_loopw [10] (fun i wr => ∃ (j : Nat) (q : Nat → Nat), j ≤ p ∧ i = .int .i64 j ∧ Hid (FS w wr pk p y x vs q j)) (fun i _ => p - (intOf i).toNat)
  case atStart => exact ⟨0, _, by omega, rfl, H0⟩
  case round =>
    obtain ⟨j, q, hj, rfl, HS⟩ := hrel
    by_cases hlt : j < p
    · have hd1 : decide (j < p) = true := by simp; omega
      have hd1' : decide ((j : Int) < (p : Int)) = true := by simp; omega
      have hji : (j : Int) < (p : Int) := by omega
      obtain ⟨A, cc, hv⟩ := HVS.out j hlt
      have c1 : wr.cell? ⟨bb, k4, none⟩ = some (.slice (some ⟨pk, 0, none⟩) p p) := by
        rw [World.cell?_of_block (w := w) (HS.out.2.2.2.block bb (World.block_lt_of_cell? w _ HC.out) (fun e => HNE.out (by injection e)))]
        exact HC.out
      have c2 : wr.cell? ⟨pk, j, none⟩ = some (.slice A y cc) := by
        have h := HS.out.1.at_ (rowF_at _ hlt)
        rw [if_neg (Nat.lt_irrefl j), hv] at h
        exact h
      have hlb := World.block_lt_of_cell? wr _ c1
      have hlp := World.block_lt_of_cell? wr _ c2
      have HK0 := hide (Bk.new wr 5 #[.int .u8 (x.toNat : Int)])
      have hb0 : Below wr.heap.size wr (wr.alloc (.cells #[.int .u8 (x.toNat : Int)] 5)).drew := ((Below.refl _ _).alloc (Nat.le_refl _) _).drew
      have HB0 := hide hb0
      have HSZ : Hid ((wr.alloc (.cells #[.int .u8 (x.toNat : Int)] 5)).drew.heap.size = wr.heap.size + 1) := hide (by simp)
      have HRP := hide (repeat_any x (some ⟨wr.heap.size, 0, none⟩) 1 y (wr.alloc (.cells #[.int .u8 (x.toNat : Int)] 5)).drew h8 h256 (by rw [HX.out]; exact (Rd.one wr _ _).drew))
      have HF0 := hide (HS.out.1.free j)
      clear hv hb0
      go_wp2_with fail
      go_region_with
        (first
          | (go_at_call 32
             with_reducible refine HRP.out.mono ?_
             rintro e5 W5 ⟨rfl, hf5⟩
             have HF5 := hide hf5
             have hb5 := HB0.out.trans (hf5.choose_spec.2.2.mono HB0.out.size)
             have s1 := (hb5.cell hlb).trans c1
             have s2 := (hb5.cell hlp).trans c2
             have f5 := (HS.out.1.below hb5 hlp).free j
             clear hf5 hb5))
      all_goals (
        have HS2 := hide (HS.out.step hlt HB0.out HF5.out)
        rw [HSZ.out] at HS2
        clear HF5 HB0 HRP HK0 s1 s2 f5
        go_wp2_with fail)
      all_goals go_roundw
      all_goals (first
        | exact ⟨j + 1, _, by omega, by go_num, HS2⟩
        | exact ⟨⟨j + 1, _, by omega, by go_num, HS2⟩, by simp [intOf]; omega⟩
        | (simp [intOf]; omega))
    · have hd1 : decide (j < p) = false := by simp; omega
      obtain rfl : j = p := by omega
      go_wp2_with fail
      go_end0
      refine ⟨rfl, q, ?_, fun i hi => ?_, HS.out.2.2.1, HS.out.2.2.2⟩
      · have h := HS.out.1
        rw [rowF_congr (h := fun i => .slice (some ⟨q i, 0, none⟩) y y) (fun i hi => if_pos hi)] at h
        exact h
      · have h := HS.out.2.1 i hi
        exact ⟨h.1, h.2.2⟩
end Go.Proofs.YtbldjiofchaigaaDoor.ChipW
