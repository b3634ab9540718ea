/- The walk of record.fault. -/
import Derived.Test.YtndhmdengadmjaaDoorRecRows
set_option linter.unusedVariables false
namespace Go.Proofs.YtndhmdengadmjaaDoor.RecW
open Go.RowKit Rec

def errR (k : Int) : Value := .iface 28 (.int .i64 k)
def inN (x : Int) : Prop := 0 ≤ x ∧ x ≤ 4611686018427387904
instance (x : Int) : Decidable (inN x) := by unfold inN; infer_instance
def okE3 (e : E3) : Prop := inN e.1 ∧ inN e.2.1 ∧ inN e.2.2
instance (e : E3) : Decidable (okE3 e) := by unfold okE3; infer_instance
/-- What is wrong with a batch: 0 nothing, 1 a number, 3 its length. -/
def faultOf (es : List E3) : Int := if 64 < es.length then 3 else if ∀ e ∈ es, okE3 e then 0 else 1
theorem idx0 (x y z : Int) (w : World) : (Instr.index 82 (.agg #[.int .i64 x, .int .i64 y, .int .i64 z]) (.int .i64 0)).run Tryd.prog w = .ok (.int .i64 x) w := by kernel_rfl
theorem idx1 (x y z : Int) (w : World) : (Instr.index 82 (.agg #[.int .i64 x, .int .i64 y, .int .i64 z]) (.int .i64 1)).run Tryd.prog w = .ok (.int .i64 y) w := by kernel_rfl
theorem idx2 (x y z : Int) (w : World) : (Instr.index 82 (.agg #[.int .i64 x, .int .i64 y, .int .i64 z]) (.int .i64 2)).run Tryd.prog w = .ok (.int .i64 z) w := by kernel_rfl
/-- What fault says. -/
def FaultPost (w : World) (es : List E3) (e : Ending) (w' : World) : Prop := Below w.heap.size w w' ∧ ((faultOf es = 0 ∧ e = .returned .nilIface) ∨ (faultOf es ≠ 0 ∧ e = .returned (errR (faultOf es))))

set_option maxRecDepth 20000 in
set_option maxHeartbeats 4000000 in
theorem fault_any (v : Value) (es : List E3) (w : World) (h : RdE w v es) : Calls Tryd.prog 18 #[v] w (FaultPost w es) := by
  obtain ⟨A, c, rfl, h⟩ := h
  have H := hide h
  obtain ⟨n, hn⟩ : ∃ n, n = es.length := ⟨_, rfl⟩
  have HN := hide hn
  rw [← hn]
  clear h hn
  by_cases hbig : 64 < n
  · have d1 : decide ((n : Int) > 64) = true := by simp; omega
    have HF : Hid (faultOf es = 3) := hide (by unfold faultOf; rw [if_pos (by rw [← HN.out]; exact hbig)])
    clear hbig
    go_enter Tryd.func18, Tryd.ntmps18
    go_wp2_with fail
    go_ret
    exact ⟨Below.refl _ _, .inr ⟨by rw [HF.out]; decide, by rw [HF.out]; rfl⟩⟩
  have d1 : decide ((n : Int) > 64) = false := by simp; omega
  have HF : Hid (faultOf es = if ∀ e ∈ es, okE3 e then 0 else 1) := hide (by unfold faultOf; rw [if_neg (by rw [← HN.out]; exact hbig)])
  go_enter Tryd.func18, Tryd.ntmps18
  go_wp2_with fail
  go_loopw [13] (fun i wr => ∃ j : Nat, j ≤ n ∧ i = .int .i64 j ∧ Hid (Below w.heap.size w wr ∧ ∀ q e, q < j → es[q]? = some e → okE3 e)) (fun i _ => n - (intOf i).toNat)
  case atStart => exact ⟨0, by omega, rfl, hide ⟨Below.refl _ _, fun q e hq => absurd hq (Nat.not_lt_zero q)⟩⟩
  case round =>
    obtain ⟨j, hj, rfl, HS⟩ := hrel
    by_cases hlt : j < n
    · have hd1 : decide ((j : Int) < (n : Int)) = true := by simp; omega
      have hji : (j : Int) < (n : Int) := by omega
      obtain ⟨e, he⟩ : ∃ e, es[j]? = some e := ⟨es[j]'(by rw [← HN.out]; exact hlt), List.getElem?_eq_getElem (by rw [← HN.out]; exact hlt)⟩
      obtain ⟨b, off, rfl, a1, a2, a3⟩ := H.out j e he
      have x1 := (HS.out.1.cell (World.block_lt_of_cell? w _ a1)).trans a1
      have x2 := (HS.out.1.cell (World.block_lt_of_cell? w _ a2)).trans a2
      have x3 := (HS.out.1.cell (World.block_lt_of_cell? w _ a3)).trans a3
      have HE := hide he
      clear he a1 a2 a3
      obtain ⟨x, y, z⟩ := e
      simp only at x1 x2 x3
      have HB2 : Hid (Below w.heap.size w (wr.alloc (.cells #[.int .i64 x, .int .i64 y, .int .i64 z] 60))) := hide (HS.out.1.trans ((Below.refl _ _).alloc HS.out.1.size _))
      have K := Bk.new wr 60 #[.int .i64 x, .int .i64 y, .int .i64 z]
      have k1 := K.at_ (i := 0) (u := .int .i64 x) rfl
      have k2 := K.at_ (i := 1) (u := .int .i64 y) rfl
      have k3 := K.at_ (i := 2) (u := .int .i64 z) rfl
      clear K
      go_wp2_with fail
      generalize wr.alloc (.cells #[.int .i64 x, .int .i64 y, .int .i64 z] 60) = W2 at *
      go_loopw [24] (fun i wq => ∃ k : Nat, k ≤ 3 ∧ i = .int .i64 k ∧ wq = W2 ∧ Hid ((0 < k → inN x) ∧ (1 < k → inN y) ∧ (2 < k → inN z))) (fun i _ => 3 - (intOf i).toNat)
      case atStart => exact ⟨0, by omega, rfl, rfl, hide ⟨fun h => absurd h (by omega), fun h => absurd h (by omega), fun h => absurd h (by omega)⟩⟩
      case round =>
        obtain ⟨k, hk, rfl, rfl, HK⟩ := hrel
        obtain rfl | rfl | rfl | rfl : k = 0 ∨ k = 1 ∨ k = 2 ∨ k = 3 := by omega
        · have hix := idx0 x y z wr
          by_cases hin : inN x
          · have HIN := hide hin
            have d3 : decide (x < 0) = false := decide_eq_false (by unfold inN at hin; omega)
            have d4 : decide (x > 4611686018427387904) = false := decide_eq_false (by unfold inN at hin; omega)
            clear hin
            go_wp2_with fail
            go_roundw
            case rel => exact ⟨1, by omega, by go_num, by first | rfl | trivial, hide ⟨fun _ => HIN.out, fun h => absurd h (by omega), fun h => absurd h (by omega)⟩⟩
            case measure => simp [intOf]
          · have HBAD : Hid (faultOf es = 1) := hide (by
              rw [HF.out, if_neg]
              intro hall
              exact hin ((hall _ (List.mem_of_getElem? HE.out)).1))
            by_cases hneg : x < 0
            · have d3 : decide (x < 0) = true := decide_eq_true hneg
              clear hin hneg
              go_wp2_with fail
              go_ret
              exact ⟨HB2.out, .inr ⟨by rw [HBAD.out]; decide, by rw [HBAD.out]; rfl⟩⟩
            · have d3 : decide (x < 0) = false := decide_eq_false hneg
              have d4 : decide (x > 4611686018427387904) = true := decide_eq_true (by unfold inN at hin; omega)
              clear hin hneg
              go_wp2_with fail
              go_ret
              exact ⟨HB2.out, .inr ⟨by rw [HBAD.out]; decide, by rw [HBAD.out]; rfl⟩⟩
        · have hix := idx1 x y z wr
          by_cases hin : inN y
          · have HIN := hide hin
            have d3 : decide (y < 0) = false := decide_eq_false (by unfold inN at hin; omega)
            have d4 : decide (y > 4611686018427387904) = false := decide_eq_false (by unfold inN at hin; omega)
            clear hin
            go_wp2_with fail
            go_roundw
            case rel => exact ⟨2, by omega, by go_num, by first | rfl | trivial, hide ⟨fun _ => HK.out.1 (by decide), fun _ => HIN.out, fun h => absurd h (by omega)⟩⟩
            case measure => simp [intOf]
          · have HBAD : Hid (faultOf es = 1) := hide (by
              rw [HF.out, if_neg]
              intro hall
              exact hin ((hall _ (List.mem_of_getElem? HE.out)).2.1))
            by_cases hneg : y < 0
            · have d3 : decide (y < 0) = true := decide_eq_true hneg
              clear hin hneg
              go_wp2_with fail
              go_ret
              exact ⟨HB2.out, .inr ⟨by rw [HBAD.out]; decide, by rw [HBAD.out]; rfl⟩⟩
            · have d3 : decide (y < 0) = false := decide_eq_false hneg
              have d4 : decide (y > 4611686018427387904) = true := decide_eq_true (by unfold inN at hin; omega)
              clear hin hneg
              go_wp2_with fail
              go_ret
              exact ⟨HB2.out, .inr ⟨by rw [HBAD.out]; decide, by rw [HBAD.out]; rfl⟩⟩
        · have hix := idx2 x y z wr
          by_cases hin : inN z
          · have HIN := hide hin
            have d3 : decide (z < 0) = false := decide_eq_false (by unfold inN at hin; omega)
            have d4 : decide (z > 4611686018427387904) = false := decide_eq_false (by unfold inN at hin; omega)
            clear hin
            go_wp2_with fail
            go_roundw
            case rel => exact ⟨3, by omega, by go_num, by first | rfl | trivial, hide ⟨fun _ => HK.out.1 (by decide), fun _ => HK.out.2.1 (by decide), fun _ => HIN.out⟩⟩
            case measure => simp [intOf]
          · have HBAD : Hid (faultOf es = 1) := hide (by
              rw [HF.out, if_neg]
              intro hall
              exact hin ((hall _ (List.mem_of_getElem? HE.out)).2.2))
            by_cases hneg : z < 0
            · have d3 : decide (z < 0) = true := decide_eq_true hneg
              clear hin hneg
              go_wp2_with fail
              go_ret
              exact ⟨HB2.out, .inr ⟨by rw [HBAD.out]; decide, by rw [HBAD.out]; rfl⟩⟩
            · have d3 : decide (z < 0) = false := decide_eq_false hneg
              have d4 : decide (z > 4611686018427387904) = true := decide_eq_true (by unfold inN at hin; omega)
              clear hin hneg
              go_wp2_with fail
              go_ret
              exact ⟨HB2.out, .inr ⟨by rw [HBAD.out]; decide, by rw [HBAD.out]; rfl⟩⟩
        · have HJ : Hid (∀ q e, q < j + 1 → es[q]? = some e → okE3 e) := hide (fun q e hq hqe => by
            rcases Nat.lt_or_ge q j with h | h
            · exact HS.out.2 q e h hqe
            · have : q = j := by omega
              subst this
              rw [HE.out] at hqe
              injection hqe with hqe
              subst hqe
              exact ⟨HK.out.1 (by decide), HK.out.2.1 (by decide), HK.out.2.2 (by decide)⟩)
          go_wp2_with fail
          go_roundw
          case rel => exact ⟨j + 1, by omega, by go_num, hide ⟨HB2.out, HJ.out⟩⟩
          case measure => simp [intOf]; omega
    · have hd1 : decide ((j : Int) < (n : Int)) = false := by simp; omega
      have HF0 : Hid (faultOf es = 0) := hide (by
        rw [HF.out, if_pos]
        intro e he
        obtain ⟨q, hq, hqe⟩ := List.getElem_of_mem he
        exact HS.out.2 q e (by have := HN.out; omega) (by rw [List.getElem?_eq_getElem hq, hqe]))
      go_wp2_with fail
      go_ret
      exact ⟨HS.out.1, .inl ⟨HF0.out, rfl⟩⟩
end Go.Proofs.YtndhmdengadmjaaDoor.RecW
