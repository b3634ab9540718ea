/- Proved: the law TopDecay: where in each word of a page, or in its check, one bit turns, the frame is still told once it is mended. It returns true at every input of the form's reach, whatever goroutines run on the way, and every argument reads afterwards as it read before. No further condition. -/
import Derived.Test.YtlaipigilikmbaaTopLMa
import Derived.Test.YtlaipigilikmbaaTopOpenMa
import Derived.Test.YtlaipigilikmbaaRows
import Derived.ShutString
import Derived.ChangeOld
set_option linter.unusedVariables false
namespace Go.Proofs.Ytlaipigilikmbaa.topDecayLaw
open Go.ChangeShapes Go.WideShapes Go.ChangeAt Go.RowKit
open Go Go.Conc Go.Proofs Go.Proofs.Ytlaipigilikmbaa Go.Proofs.Ytlaipigilikmbaa.Co Go.Proofs.Ytlaipigilikmbaa.Cl Go.Proofs.Ytlaipigilikmbaa.TopW
theorem own : ownKnob Try.prog.godebug = none := by kernel_rfl
theorem laidOut : laidOutB Try.prog = true := by kernel_rfl
theorem body : Try.f3.body = some (TopW.kE 0) := by kernel_rfl

set_option maxRecDepth 100000 in
theorem lifted (os : Os) (started : os.Started) (H : Type) (enc : TypeId × Value → H) :
    ReturnsInLeavingWide {} Try.checked os 3 .any (Rows.topDecaySpec.pre6 enc Try.prog Try.f3 Rows.topDecayRow.domain false) (Rows.topDecaySpec.post enc Try.prog Try.f3 false true false false) := by
  refine leaving_shaped (C := Try.checked) own started Try.func3
    (ChangeSpec.witness6 (enc := enc) (C := Try.checked) false ⟨#[], #[.int .i64 0, .agg #[.int .i64 0, .int .i64 0, .int .i64 0, .slice none 0 0], .slice none 0 0], []⟩ 8 (by kernel_rfl) (by kernel_rfl) (by kernel_rfl) (by kernel_rfl)) ?_
  intro W base args ds gs before hval0 hW _ hsz0 hsh htape τ d
  have hval : ∀ (j : Nat) t v, Try.f3.params[j]? = some t → args[j]? = some v → Value.okWide Try.prog W .any base t v := hval0
  have hsh' : W.ShapedOpen Try.prog := hsh
  have hW' := hW
  obtain ⟨p, q, hA0, hV, rfl, hfz, hnd⟩ := hW
  have hA : DataW.TrodAll enc Try.prog W 0 (fun _ => true) true Try.f3.params.toList args.toList ds p := hA0
  rw [Try.params3] at hA hval
  obtain ⟨v0, vs0, d0, ds0, p0, q0, hargs, rfl, rfl, h0, r0⟩ := trodAll_cons hA
  obtain ⟨v1, vs1, d1, ds1, p1, q1, rfl, rfl, rfl, h1, r1⟩ := trodAll_cons r0
  obtain ⟨v2, vs2, d2, ds2, p2, q2, rfl, rfl, rfl, h2, r2⟩ := trodAll_cons r1
  obtain ⟨rfl, rfl, rfl⟩ := trodAll_nil r2
  obtain rfl : args = #[v0, v1, v2] := by cases args; simp_all
  obtain ⟨rfl, rfl⟩ := trodVars_none hV
  have k0 := h0
  have lt0 : ∀ x ∈ p0, x.block < W.heap.size := by obtain ⟨m, hm⟩ := k0; exact DataW.trod_lt m _ _ _ hm
  obtain ⟨x0, rfl, hx0, -, w0⟩ := open_int Try.underlying3 (hval 0 3 v0 rfl rfl) h0
  have bd0 := bounds_i64 w0
  have k1 := h1
  have lt1 : ∀ x ∈ p1, x.block < W.heap.size := by obtain ⟨m, hm⟩ := k1; exact DataW.trod_lt m _ _ _ hm
  obtain ⟨ke, le, se, pv, l, rfl, hpg⟩ := open_frame_l (fs := (_, _, _, _)) Try.underlying24 (by kernel_rfl) (by kernel_rfl) rfl rfl rfl rfl Try.underlying3 Try.underlying22 Try.underlying5 (by kernel_rfl) (hval 1 24 v1 rfl rfl) h1
  have k2 := h2
  have lt2 : ∀ x ∈ p2, x.block < W.heap.size := by obtain ⟨m, hm⟩ := k2; exact DataW.trod_lt m _ _ _ hm
  obtain ⟨A, L, cA, xs, rfl, hxl, hLm, htold, hrd, hbd⟩ := open_ints_l Try.underlying25 Try.underlying3 (by kernel_rfl) (hval 2 25 v2 rfl rfl) h2
  clear hA0 hval0
  obtain ⟨D0, m0, c0, e0, hm0, hrD⟩ := pg_slice (lw_pg (G := Try.prog.globals.size) hpg)
  obtain ⟨A0, e1, hrA, -⟩ := lw_rd (G := Try.prog.globals.size) (n := L) (c := cA) htold hrd (fun v hv => by obtain ⟨x, -, rfl⟩ := List.mem_map.1 hv; exact ⟨_, _, rfl⟩)
  have hm : (#[.int .i64 x0, .agg #[.int .i64 ke, .int .i64 le, .int .i64 se, pv], .slice A L cA] : Array Value).map (clA Try.prog.globals.size W) = #[.int .i64 x0, .agg #[.int .i64 ke, .int .i64 le, .int .i64 se, .slice D0 m0 c0], .slice A0 L cA] := by
    simp only [List.map_toArray, List.map_cons, List.map_nil]
    rw [show clA Try.prog.globals.size W (.slice A L cA) = _ from e1, show clA Try.prog.globals.size W (.agg #[.int .i64 ke, .int .i64 le, .int .i64 se, pv]) = .agg #[.int .i64 ke, .int .i64 le, .int .i64 se, clV Try.prog.globals.size W pv] from by simp [clA, clV], e0]
    rfl
  refine law_wins (P := Try.prog) (ok := fun i => okL.contains i) (c := TopW.kE 0) topF body ?_ τ d
  rw [hm]
  refine top1 (n := x0) (k1 := ke) (l1 := le) (s1 := se) (D := D0) (m := m0) (cd := c0) (A := A0) (L := L) (cA := cA) (xs := xs) (law_ok hsh' _ _) (fun _ _ h => h) (fun w ho hlo hst => ?_) bd0.1 bd0.2 hm0 hrD hxl hrA hbd (by simp only [maxLen] at hLm; omega) (by simp [Try.ntmps3]) (by simp) (by simp) (by simp)
  have bel : Below W.heap.size W w.blind := by
    refine ⟨hst.1, htape.symm, hst.2, ?_, ho⟩
    rcases Nat.eq_zero_or_pos W.heap.size with h | h
    · omega
    · have : W.heap.size - 1 < w.heap.size := hlo _ (by omega)
      show W.heap.size ≤ w.heap.size
      omega
  exact ⟨_, _, _, [], _, [], hW', trodAll_mk1 (shut_bool Try.underlying4 _), (trodAll_cons_mk (Below.trod laidOut (by kernel_rfl) (of_decide_eq_true (by kernel_rfl)) k0 bel lt0) (trodAll_cons_mk (Below.trod laidOut (by kernel_rfl) (of_decide_eq_true (by kernel_rfl)) k1 bel lt1) (trodAll_cons_mk (Below.trod laidOut (by kernel_rfl) (of_decide_eq_true (by kernel_rfl)) k2 bel lt2) trodAll_mk0))), rfl, bel.frame _, fun h => by cases h⟩

theorem over : Rows.topDecayRow.holds Try.pinned (OpenSpec.ofChange Rows.topDecaySpec) :=
  OpenClaim.holds_of_wide_leaving 3 Try.f3 rfl rfl rfl rfl rfl rfl rfl ⟨rfl, rfl, rfl, rfl, rfl⟩ rfl rfl rfl rfl rfl (by kernel_rfl) Try.func3 (by kernel_rfl)
    (of_decide_eq_true (by kernel_rfl)) (by unfold Func.isWrapper; first | (rw [if_pos (by decide +kernel)]; kernel_rfl) | (rw [if_neg (by decide +kernel)]; exact ⟨rfl, rfl⟩))
    (fun os started H enc _ => lifted os started H enc)

/-- The statement. -/
theorem proved : Rows.TopDecaySaid := over
#print axioms proved
end Go.Proofs.Ytlaipigilikmbaa.topDecayLaw
