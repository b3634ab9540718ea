/- Proved: the law ScanBlanks: pages that say nothing, put between others, change nothing of what is newest. It returns true at every input of the form's reach, whatever goroutines run on the way, and every argument reads afterwards as it read before. No further condition. -/
import Derived.Test.YtlaipigilikmbaaBlLMa
import Derived.Test.YtlaipigilikmbaaRows
import Derived.ShutString
import Derived.ChangeOld
set_option linter.unusedVariables false
namespace Go.Proofs.Ytlaipigilikmbaa.scanBlanksLaw
open Go.ChangeShapes Go.WideShapes Go.ChangeAt Go.RowKit
open Go Go.Conc Go.Proofs Go.Proofs.Ytlaipigilikmbaa Go.Proofs.Ytlaipigilikmbaa.Co Go.Proofs.Ytlaipigilikmbaa.Cl Go.Proofs.Ytlaipigilikmbaa.BlW
theorem own : ownKnob Try.prog.godebug = none := by kernel_rfl
theorem laidOut : laidOutB Try.prog = true := by kernel_rfl
theorem body : Try.f5.body = some (kE 0) := by kernel_rfl

set_option maxRecDepth 100000 in
theorem lifted (os : Os) (started : os.Started) (H : Type) (enc : TypeId × Value → H) :
    ReturnsInLeavingWide {} Try.checked os 5 .any (Rows.scanBlanksSpec.pre6 enc Try.prog Try.f5 Rows.scanBlanksRow.domain false) (Rows.scanBlanksSpec.post enc Try.prog Try.f5 false true false false) := by
  refine leaving_shaped (C := Try.checked) own started Try.func5
    (ChangeSpec.witness6 (enc := enc) (C := Try.checked) false ⟨#[], #[.slice none 0 0, .int .i64 0, .int .i64 0, .int .i64 0], []⟩ 8 (by kernel_rfl) (by kernel_rfl) (by kernel_rfl) (by kernel_rfl)) ?_
  intro W base args ds gs before hval0 hW _ hsz0 hsh htape τ d
  have hval : ∀ (j : Nat) t v, Try.f5.params[j]? = some t → args[j]? = some v → Value.okWide Try.prog W .any base t v := hval0
  have hsh' : W.ShapedOpen Try.prog := hsh
  have hW' := hW
  obtain ⟨p, q, hA0, hV, rfl, hfz, hnd⟩ := hW
  have hA : DataW.TrodAll enc Try.prog W 0 (fun _ => true) true Try.f5.params.toList args.toList ds p := hA0
  rw [Try.params5] at hA hval
  obtain ⟨v0, vs0, d0, ds0, p0, q0, hargs, rfl, rfl, h0, r0⟩ := trodAll_cons hA
  obtain ⟨v1, vs1, d1, ds1, p1, q1, rfl, rfl, rfl, h1, r1⟩ := trodAll_cons r0
  obtain ⟨v2, vs2, d2, ds2, p2, q2, rfl, rfl, rfl, h2, r2⟩ := trodAll_cons r1
  obtain ⟨v3, vs3, d3, ds3, p3, q3, rfl, rfl, rfl, h3, r3⟩ := trodAll_cons r2
  obtain ⟨rfl, rfl, rfl⟩ := trodAll_nil r3
  obtain rfl : args = #[v0, v1, v2, v3] := by cases args; simp_all
  obtain ⟨rfl, rfl⟩ := trodVars_none hV
  have k0 := h0
  have lt0 : ∀ x ∈ p0, x.block < W.heap.size := by obtain ⟨m, hm⟩ := k0; exact DataW.trod_lt m _ _ _ hm
  obtain ⟨A, L, cp, pg, rfl, hL1, hL2, htold, hnil, hLA⟩ := open_pages Try.underlying39 Try.underlying22 Try.underlying5 (by kernel_rfl) (by kernel_rfl) (hval 0 39 v0 rfl rfl) h0
  have k1 := h1
  have lt1 : ∀ x ∈ p1, x.block < W.heap.size := by obtain ⟨m, hm⟩ := k1; exact DataW.trod_lt m _ _ _ hm
  obtain ⟨x1, rfl, hx1, -, w1⟩ := open_int Try.underlying3 (hval 1 3 v1 rfl rfl) h1
  have bd1 := bounds_i64 w1
  have k2 := h2
  have lt2 : ∀ x ∈ p2, x.block < W.heap.size := by obtain ⟨m, hm⟩ := k2; exact DataW.trod_lt m _ _ _ hm
  obtain ⟨x2, rfl, hx2, -, w2⟩ := open_int Try.underlying3 (hval 2 3 v2 rfl rfl) h2
  have bd2 := bounds_i64 w2
  have k3 := h3
  have lt3 : ∀ x ∈ p3, x.block < W.heap.size := by obtain ⟨m, hm⟩ := k3; exact DataW.trod_lt m _ _ _ hm
  obtain ⟨x3, rfl, hx3, -, w3⟩ := open_int Try.underlying3 (hval 3 3 v3 rfl rfl) h3
  have bd3 := bounds_i64 w3
  clear hA0 hval0
  obtain ⟨A0, e0, hA1⟩ := lw_args (G := Try.prog.globals.size) htold hLA
  have hm : (#[.slice A L cp, .int .i64 x1, .int .i64 x2, .int .i64 x3] : Array Value).map (clA Try.prog.globals.size W) = #[.slice A0 L cp, .int .i64 x1, .int .i64 x2, .int .i64 x3] := by
    simp only [List.map_toArray, List.map_cons, List.map_nil]
    rw [show clA Try.prog.globals.size W (.slice A L cp) = _ from e0]
    rfl
  refine law_wins (P := Try.prog) (ok := fun i => okL.contains i) (c := kE 0) blF body ?_ τ d
  rw [hm]
  refine bl1 (A := A0) (L := L) (cp := cp) (pg := pg) (x := x1) (y := x2) (z := x3) (en_sound (told W)) (law_ok hsh' _ _) (fun _ _ h => h) (fun w ho hlo hst => ?_) bd1.1 bd1.2 bd2.1 bd2.2 bd3.1 bd3.2 hA1 hL1 hL2 (by simp [Try.ntmps5]) (by simp) (by simp) (by simp) (by simp)
  have bel : Below W.heap.size W w.blind := by
    refine ⟨hst.1, htape.symm, hst.2, ?_, ho⟩
    rcases Nat.eq_zero_or_pos W.heap.size with h | h
    · omega
    · have : W.heap.size - 1 < w.heap.size := hlo _ (by omega)
      show W.heap.size ≤ w.heap.size
      omega
  exact ⟨_, _, _, [], _, [], hW', trodAll_mk1 (shut_bool Try.underlying4 _), (trodAll_cons_mk (Below.trod laidOut (by kernel_rfl) (of_decide_eq_true (by kernel_rfl)) k0 bel lt0) (trodAll_cons_mk (Below.trod laidOut (by kernel_rfl) (of_decide_eq_true (by kernel_rfl)) k1 bel lt1) (trodAll_cons_mk (Below.trod laidOut (by kernel_rfl) (of_decide_eq_true (by kernel_rfl)) k2 bel lt2) (trodAll_cons_mk (Below.trod laidOut (by kernel_rfl) (of_decide_eq_true (by kernel_rfl)) k3 bel lt3) trodAll_mk0)))), rfl, bel.frame _, fun h => by cases h⟩

theorem over : Rows.scanBlanksRow.holds Try.pinned (OpenSpec.ofChange Rows.scanBlanksSpec) :=
  OpenClaim.holds_of_wide_leaving 5 Try.f5 rfl rfl rfl rfl rfl rfl rfl ⟨rfl, rfl, rfl, rfl, rfl⟩ rfl rfl rfl rfl rfl (by kernel_rfl) Try.func5 (by kernel_rfl)
    (of_decide_eq_true (by kernel_rfl)) (by unfold Func.isWrapper; first | (rw [if_pos (by decide +kernel)]; kernel_rfl) | (rw [if_neg (by decide +kernel)]; exact ⟨rfl, rfl⟩))
    (fun os started H enc _ => lifted os started H enc)

/-- The statement. -/
theorem proved : Rows.ScanBlanksSaid := over
#print axioms proved
end Go.Proofs.Ytlaipigilikmbaa.scanBlanksLaw
