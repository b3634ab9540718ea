/- The walk of granaryref1.Batches on the same. -/
import Derived.Test.YtndhmdengadmjaaRecRead
import Derived.Test.YtndhmdengadmjaaRecRows
import Derived.Laws.StructEq
set_option linter.unusedVariables false
namespace Go.Proofs.Ytndhmdengadmjaa.RecW
open Go.RowKit Rec BufW I64

theorem neq_ent (x y z : Int) (w : World) : (binOp .neq 76 (.agg #[.int .i64 x, .int .i64 y, .int .i64 z]) (.agg #[.int .i64 x, .int .i64 y, .int .i64 z])).run Try.prog w = .ok (.bool false) w := by
  have u3 := Try.underlying3
  have a3 := Try.isAgg3
  have z3 := Try.sizeOf3
  have hS : Try.prog.underlying 76 = some (.struct (Try.prog.fieldsOf 76)) := by kernel_rfl
  have hp : Try.prog.stoodInHeld 76 = false := by kernel_rfl
  rw [run_neq_struct, show (10000 : Nat) = 9999 + 1 from rfl, run_equalIn_struct w 9999 76 _ _ hS hp]
  simp only [Program.fieldsOf, Try.underlying76]
  go_simp

set_option maxRecDepth 20000 in
set_option maxHeartbeats 2000000 in
theorem batches_same (v1 v2 : Value) (ls : List (List E3)) (w : World) (h1 : RdB w v1 ls) (h2 : RdB w v2 ls) (hl : ls.length ≤ 1000000000) (hle : ∀ es ∈ ls, es.length ≤ 1000000000) :
    Calls Try.prog 17 #[v1, v2] w fun e w' => e = .returned (.bool true) ∧ ∃ d, w' = w.drewN d := by
  obtain ⟨A1, c1, rfl, h1⟩ := h1
  obtain ⟨A2, c2, rfl, h2⟩ := h2
  have H1 := hide h1
  have H2 := hide h2
  have HL := hide hle
  obtain ⟨n, hn⟩ : ∃ n, n = ls.length := ⟨_, rfl⟩
  have HN := hide hn
  rw [← hn] at hl ⊢
  have dne : ((n : Int) != (n : Int)) = false := by simp
  have hneq := neq_ent
  have HNEQ := hide hneq
  clear h1 h2 hle hn hneq
  go_enter Try.func17, Try.ntmps17
  go_wp2_with fail
  go_loopw [5] (fun i wq => ∃ j d : Nat, j ≤ n ∧ i = .int .i64 j ∧ wq = w.drewN d) (fun i _ => n - (intOf i).toNat)
  case atStart => exact ⟨0, 0, by omega, rfl, rfl⟩
  case round =>
    obtain ⟨j, d, hj, rfl, rfl⟩ := hrel
    by_cases hlt : j < n
    · have hd1 : decide ((j : Int) < (n : Int)) = true := by simp; omega
      have hji : (j : Int) < (n : Int) := by omega
      obtain ⟨es, hes⟩ : ∃ es, ls[j]? = some es := ⟨ls[j]'(by rw [← HN.out]; exact hlt), List.getElem?_eq_getElem (by rw [← HN.out]; exact hlt)⟩
      obtain ⟨b1, o1, ve1, rfl, a1, e1⟩ := H1.out j es hes
      obtain ⟨b2, o2, ve2, rfl, a2, e2⟩ := H2.out j es hes
      obtain ⟨B1, k1, rfl, e1⟩ := e1
      obtain ⟨B2, k2, rfl, e2⟩ := e2
      obtain ⟨m, hm⟩ : ∃ m, m = es.length := ⟨_, rfl⟩
      have hm9 : m ≤ 1000000000 := by rw [hm]; exact HL.out es (List.mem_of_getElem? hes)
      have HM := hide hm
      rw [← hm] at a1 a2
      have E1 := hide e1
      have E2 := hide e2
      have dnm : ((m : Int) != (m : Int)) = false := by simp
      clear hes e1 e2 hm
      go_wp2_with fail
      go_quiet (fail)
      go_wp2_with fail
      go_loopw [6] (fun i wq => ∃ k d : Nat, k ≤ m ∧ i = .int .i64 k ∧ wq = w.drewN d) (fun i _ => m - (intOf i).toNat)
      case atStart => exact ⟨0, _, by omega, rfl, World.drewN_drewN _ _ _⟩
      case round =>
        obtain ⟨k, d2, hk, rfl, rfl⟩ := hrel
        by_cases hlt2 : k < m
        · have hd2 : decide ((k : Int) < (m : Int)) = true := by simp; omega
          have hki : (k : Int) < (m : Int) := by omega
          obtain ⟨e, he⟩ : ∃ e, es[k]? = some e := ⟨es[k]'(by rw [← HM.out]; exact hlt2), List.getElem?_eq_getElem (by rw [← HM.out]; exact hlt2)⟩
          obtain ⟨bb1, oo1, rfl, x1, y1, z1⟩ := E1.out k e he
          obtain ⟨bb2, oo2, rfl, x2, y2, z2⟩ := E2.out k e he
          obtain ⟨x, y, z⟩ := e
          simp only at x1 y1 z1 x2 y2 z2
          have hq := HNEQ.out x y z
          clear he
          go_wp2_with fail
          go_quiet (fail)
          go_wp2_with fail
          go_roundw
          case rel => exact ⟨k + 1, _, by omega, by go_num, rfl⟩
          case measure => simp [intOf]; omega
        · have hd2 : decide ((k : Int) < (m : Int)) = false := by simp; omega
          go_wp2_with fail
          go_roundw
          case rel => exact ⟨j + 1, _, by omega, by go_num, rfl⟩
          case measure => simp [intOf]; omega
    · have hd1 : decide ((j : Int) < (n : Int)) = false := by simp; omega
      go_wp2_with fail
      go_ret
      exact ⟨rfl, _, rfl⟩
end Go.Proofs.Ytndhmdengadmjaa.RecW
