/- The walk of sweep.Level. -/
import Derived.Test.YtndiionpijjdbaaDoorSweepF
set_option linter.unusedVariables false
namespace Go.Proofs.YtndiionpijjdbaaDoor.SwW
open Go.RowKit I64 Stab

/-- The greatest wear of the first k; the number of the least worn used one. -/
def mostF (S : Nat → Blk) : Nat → Int
  | 0 => 0
  | k + 1 => if mostF S k < (S k).wr then (S k).wr else mostF S k
def leastF (S : Nat → Blk) : Nat → Int
  | 0 => -1
  | k + 1 => if (S k).u = true ∧ (leastF S k < 0 ∨ (S k).wr < (S (leastF S k).toNat).wr) then (k : Int) else leastF S k
theorem leastF_bound (S : Nat → Blk) (k : Nat) : -1 ≤ leastF S k ∧ leastF S k < k := by
  induction k with
  | zero => exact ⟨by show (-1 : Int) ≤ -1; omega, by show (-1 : Int) < _; omega⟩
  | succ k ih =>
    unfold leastF
    split
    · omega
    · omega
theorem mostF_bound (S : Nat → Blk) (k : Nat) (h : ∀ j, j < k → (S j).wr ≤ 1000000000) : 0 ≤ mostF S k ∧ mostF S k ≤ 1000000000 := by
  induction k with
  | zero => exact ⟨by show (0 : Int) ≤ 0; omega, by show (0 : Int) ≤ _; omega⟩
  | succ k ih =>
    have h1 := ih (fun j hj => h j (by omega))
    have h2 := h k (by omega)
    unfold mostF
    split
    · omega
    · omega
theorem max_int (x y : Int) (ts : Array TypeId) (t : TypeId) (w : World) : (Builtin.max_ ts t #[.int .i64 x, .int .i64 y]).run Tryd.prog w = .ok (.int .i64 (if x < y then y else x)) w := by
  simp [Builtin.max_, Builtin.max2]

theorem cell_al {w : World} {x i : Nat} {u : Value} (o : Obj) (h : w.cell? ⟨x, i, none⟩ = some u) : (w.alloc o).cell? ⟨x, i, none⟩ = some u :=
  (World.cell?_of_block (Below.heap_alloc w o x (World.block_lt_of_cell? w _ h))).trans h
/-- What Level says. -/
def levR (S : Nat → Blk) (n : Nat) (gap : Int) : Int := if leastF S n < 0 ∨ mostF S n - (S (leastF S n).toNat).wr ≤ gap then -1 else leastF S n
def LevP (w : World) (S : Nat → Blk) (gap : Int) (n : Nat) (e : Ending) (w' : World) : Prop :=
  Below w.heap.size w w' ∧ ((flt S n 4096 (decide (gap < 0)) ≠ 0 ∧ e = .returned (.tuple #[.int .i64 0, errR (flt S n 4096 (decide (gap < 0)))])) ∨
    (flt S n 4096 (decide (gap < 0)) = 0 ∧ ((levR S n gap < 0 ∧ e = .returned (.tuple #[.int .i64 0, errR 4])) ∨ (0 ≤ levR S n gap ∧ e = .returned (.tuple #[.int .i64 (levR S n gap), .nilIface])))))
attribute [local irreducible] flt okB mostF leastF levR
set_option maxRecDepth 20000 in
set_option maxHeartbeats 4000000 in
theorem level_any (A : Option Addr) (n c : Nat) (S : Nat → Blk) (T : Nat) (gap : Int) (w : World) (hr : RdB w A n S T) (hT : T ≤ w.heap.size) (hn : n ≤ 9223372036854775807) (hg1 : -9223372036854775808 ≤ gap) (hg2 : gap ≤ 9223372036854775807) :
    Calls Tryd.prog 13 #[.slice A n c, .int .i64 gap] w (LevP w S gap n) := by
  have HFA := hide (fault_any A n c S T 4096 (decide (gap < 0)) w hr hT hn)
  have HR := hide hr
  have HT := hide hT
  clear hr hT
  go_enter Tryd.func13, Tryd.ntmps13
  go_wp2_with fail
  refine HFA.out.mono ?_
  rintro e w1 ⟨rfl, hb1⟩
  by_cases hf : flt S n 4096 (decide (gap < 0)) = 0
  · have HF := hide hf
    have HZ := hide (flt_zero hf)
    have HB1 := hide hb1
    rw [hf, errV_zero]
    clear hf hb1 HFA
    go_wp2_with fail
    go_loopw [7, 8, 20] (fun mo le i wr => ∃ k : Nat, i = .int .i64 k ∧ k ≤ n ∧ mo = .int .i64 (mostF S k) ∧ le = .int .i64 (leastF S k) ∧ Hid (Below w.heap.size w wr)) (fun _ _ i _ => n - (intOf i).toNat)
    case atStart => exact ⟨0, rfl, by omega, by unfold mostF; rfl, by unfold leastF; rfl, HB1⟩
    case round =>
      obtain ⟨k, rfl, hk, rfl, rfl, HB⟩ := hrel
      by_cases hlt : k < n
      · have e1 : decide (k < n) = true := by simpa using hlt
        have e1' : decide ((k : Int) < (n : Int)) = true := by simp; omega
        have hki : (k : Int) < (n : Int) := by omega
        obtain ⟨b, off, rfl, hbT, z0, z1, z2⟩ := (HR.out.below HB.out HT.out) k hlt
        have hmx : ∀ (ts : Array TypeId) (t : TypeId) (w : World), (Builtin.max_ ts t #[.int .i64 (mostF S k), .int .i64 (S k).wr]).run Tryd.prog w = .ok (.int .i64 (mostF S (k + 1))) w := fun ts t w => by rw [max_int]; conv => rhs; unfold mostF
        obtain ⟨x, hx⟩ : ∃ x, x = S k := ⟨_, rfl⟩
        have HX := hide hx
        obtain ⟨mo, hmo⟩ : ∃ mo, mo = mostF S k := ⟨_, rfl⟩
        obtain ⟨mo2, hmo2⟩ : ∃ mo2, mo2 = mostF S (k + 1) := ⟨_, rfl⟩
        obtain ⟨le, hle⟩ : ∃ le, le = leastF S k := ⟨_, rfl⟩
        have HMO : Hid (mostF S (k + 1) = mo2) := hide hmo2.symm
        have HLB : Hid (-1 ≤ le ∧ le < k) := hide (by rw [hle]; exact leastF_bound S k)
        have HLS : Hid (leastF S (k + 1) = if x.u = true ∧ (le < 0 ∨ x.wr < (S le.toNat).wr) then (k : Int) else le) := hide (by rw [hx, hle]; conv => lhs; unfold leastF)
        rw [← hx] at z0 z1 z2
        rw [← hx, ← hmo, ← hmo2] at hmx
        rw [← hmo, ← hle]
        have HB2 := hide (HB.out.alloc HB.out.size (.cells #[.bool x.u, .int .i64 x.lv, .int .i64 x.wr] 42))
        clear hx hmo hmo2 hle
        by_cases hu : x.u = true
        · rw [hu] at z0 HB2
          have hlb := HLB.out
          by_cases hl0 : le < 0
          · have d1 : decide (le < 0) = true := decide_eq_true hl0
            have HLE : Hid (leastF S (k + 1) = (k : Int)) := hide (by rw [HLS.out, if_pos ⟨hu, .inl hl0⟩])
            clear hu hl0
            go_wp2_with fail
            go_quiet (fail)
            go_wp2_with fail
            go_roundw
            case rel => exact ⟨k + 1, by go_num, by omega, by rw [HMO.out], by rw [HLE.out], hide (below_drewN HB2.out _)⟩
            case measure => simp [intOf]; omega
          · have d1 : decide (le < 0) = false := decide_eq_false hl0
            obtain ⟨L, rfl⟩ : ∃ L : Nat, le = L := ⟨le.toNat, by omega⟩
            obtain ⟨b', off', he, -, -, -, l2⟩ := (HR.out.below HB.out HT.out) L (by omega)
            injection he with he
            injection he with he1 he2
            subst he1 he2
            have hLn : (L : Int) < (n : Int) := by omega
            have l2' : (wr.alloc (.cells #[.bool true, .int .i64 x.lv, .int .i64 x.wr] 42)).cell? ⟨b, off + L * 3 + 2, none⟩ = some (.int .i64 (S L).wr) := cell_al _ l2
            by_cases hw : x.wr < (S L).wr
            · have d2 : decide (x.wr < (S L).wr) = true := decide_eq_true hw
              have HLE : Hid (leastF S (k + 1) = (k : Int)) := hide (by rw [HLS.out, if_pos ⟨hu, .inr hw⟩])
              obtain ⟨lw, hlw⟩ : ∃ lw, lw = (S L).wr := ⟨_, rfl⟩
              rw [← hlw] at l2 l2' d2
              clear hu hl0 hw hlw
              go_wp2_with fail
              go_quiet (fail)
              go_wp2_with fail
              go_roundw
              case rel => exact ⟨k + 1, by go_num, by omega, by rw [HMO.out], by rw [HLE.out], hide (below_drewN HB2.out _)⟩
              case measure => simp [intOf]; omega
            · have d2 : decide (x.wr < (S L).wr) = false := decide_eq_false hw
              have HLE : Hid (leastF S (k + 1) = (L : Int)) := hide (by rw [HLS.out, if_neg (fun h => h.2.elim hl0 hw)])
              obtain ⟨lw, hlw⟩ : ∃ lw, lw = (S L).wr := ⟨_, rfl⟩
              rw [← hlw] at l2 l2' d2
              clear hu hl0 hw hlw
              go_wp2_with fail
              go_quiet (fail)
              go_wp2_with fail
              go_roundw
              case rel => exact ⟨k + 1, by go_num, by omega, by rw [HMO.out], by rw [HLE.out], hide (below_drewN HB2.out _)⟩
              case measure => simp [intOf]; omega
        · have hu2 : x.u = false := by simpa using hu
          have HLE : Hid (leastF S (k + 1) = le) := hide (by rw [HLS.out, if_neg (fun h => hu h.1)])
          rw [hu2] at z0 HB2
          clear hu hu2
          go_wp2_with fail
          go_quiet (fail)
          go_wp2_with fail
          go_roundw
          case rel => exact ⟨k + 1, by go_num, by omega, by rw [HMO.out], by rw [HLE.out], hide (below_drewN HB2.out _)⟩
          case measure => simp [intOf]; omega
      · obtain rfl : k = n := by omega
        have e1 : decide (k < k) = false := by simp
        have e1' : decide ((k : Int) < (k : Int)) = false := by simp
        have HLV : Hid (levR S k gap = if leastF S k < 0 ∨ mostF S k - (S (leastF S k).toNat).wr ≤ gap then -1 else leastF S k) := hide (by conv => lhs; unfold levR)
        have hok := HZ.out.2.2.2.2
        have HMB : Hid (0 ≤ mostF S k ∧ mostF S k ≤ 1000000000) := hide (mostF_bound S k (fun j hj => by have h := hok j hj; unfold okB at h; exact h.2.2.2))
        have HWB : Hid (∀ j, j < k → 0 ≤ (S j).wr ∧ (S j).wr ≤ 1000000000) := hide (fun j hj => by have h := hok j hj; unfold okB at h; exact h.2.2)
        obtain ⟨mo, hmo⟩ : ∃ mo, mo = mostF S k := ⟨_, rfl⟩
        obtain ⟨le, hle⟩ : ∃ le, le = leastF S k := ⟨_, rfl⟩
        have HLB : Hid (-1 ≤ le ∧ le < k) := hide (by rw [hle]; exact leastF_bound S k)
        rw [← hmo, ← hle] at HLV
        rw [← hmo] at HMB
        rw [← hmo, ← hle]
        clear hok hmo hle
        have hlb := HLB.out
        have hmb := HMB.out
        by_cases hl0 : le < 0
        · have d1 : decide (le < 0) = true := decide_eq_true hl0
          have HL : Hid (levR S k gap < 0) := hide (by rw [HLV.out, if_pos (.inl hl0)]; omega)
          clear hl0
          go_wp2_with fail
          go_ret2
          exact ⟨HB.out, .inr ⟨HF.out, .inl ⟨HL.out, rfl⟩⟩⟩
        · have d1 : decide (le < 0) = false := decide_eq_false hl0
          obtain ⟨L, rfl⟩ : ∃ L : Nat, le = L := ⟨le.toNat, by omega⟩
          obtain ⟨b, off, rfl, -, -, -, l2⟩ := (HR.out.below HB.out HT.out) L (by omega)
          have hLn : (L : Int) < (k : Int) := by omega
          have hwb := HWB.out L (by omega)
          rw [Int.toNat_natCast] at HLV
          obtain ⟨lw, hlw⟩ : ∃ lw, lw = (S L).wr := ⟨_, rfl⟩
          rw [← hlw] at l2 hwb HLV
          clear hlw
          by_cases hg : mo - lw ≤ gap
          · have d2 : decide (mo - lw ≤ gap) = true := decide_eq_true hg
            have HL : Hid (levR S k gap < 0) := hide (by rw [HLV.out, if_pos (.inr hg)]; omega)
            clear hl0 hg
            go_wp2_with fail
            go_ret2
            exact ⟨HB.out, .inr ⟨HF.out, .inl ⟨HL.out, rfl⟩⟩⟩
          · have d2 : decide (mo - lw ≤ gap) = false := decide_eq_false hg
            have HL : Hid (levR S k gap = (L : Int)) := hide (by rw [HLV.out, if_neg (fun h => h.elim hl0 hg)])
            clear hl0 hg
            go_wp2_with fail
            go_ret2
            exact ⟨HB.out, .inr ⟨HF.out, .inr ⟨by rw [HL.out]; omega, by rw [HL.out]; rfl⟩⟩⟩
  · have HF := hide hf
    have HB1 := hide hb1
    rw [errV_ne hf]
    clear hf hb1 HFA
    unfold errR
    go_wp2_with fail
    go_ret2
    exact ⟨HB1.out, .inl ⟨HF.out, rfl⟩⟩
end Go.Proofs.YtndiionpijjdbaaDoor.SwW
