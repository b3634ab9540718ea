/- Proved: the law ScanJoins, where what came in is of small bulk: what is newest among two rows of pages is what is newest in each, joined. It returns true at every such input, whatever goroutines run on the way, and every argument reads afterwards as it read before. -/
import Derived.Test.YtlaipigilikmbaaJoLMa
import Derived.Test.YtlaipigilikmbaaLwCondMa
import Derived.Test.YtlaipigilikmbaaRows
import Derived.ShutString
import Derived.ChangeOld
set_option linter.unusedVariables false
namespace Go.Proofs.Ytlaipigilikmbaa.scanJoinsLaw
open Go.ChangeShapes Go.WideShapes Go.ChangeAt Go.RowKit
open Go Go.Conc Go.Proofs Go.Proofs.Ytlaipigilikmbaa Go.Proofs.Ytlaipigilikmbaa.Co Go.Proofs.Ytlaipigilikmbaa.Cl Go.Proofs.Ytlaipigilikmbaa.JoW
theorem own : ownKnob Try.prog.godebug = none := by kernel_rfl
theorem laidOut : laidOutB Try.prog = true := by kernel_rfl
theorem body : Try.f4.body = some (kE 0) := by kernel_rfl

set_option maxRecDepth 100000 in
theorem lifted (os : Os) (started : os.Started) (H : Type) (enc : TypeId × Value → H) (F : Stop.Interp) :
    ReturnsInLeavingWide {} Try.checked os 4 .any ((Rows.OpenSpec.upto Rows.scanJoinsSpec).pre6 enc Try.prog Try.f4 Rows.scanJoinsUptoRow.domain false) (fun w args v w' => ((Rows.OpenSpec.upto Rows.scanJoinsSpec).at F).post enc Try.prog Try.f4 false true false false w args v w' ∧ Rows.scanJoinsUptoRow.nothingLetGo w w') := by
  refine leaving_cond (C := Try.checked) (s := Rows.OpenSpec.upto Rows.scanJoinsSpec) (k := Rows.uptoSmall) rfl own started Try.func4
    (OpenSpec.witness (enc := enc) (C := Try.checked) (s := Rows.OpenSpec.upto Rows.scanJoinsSpec) (k := Rows.uptoSmall) rfl false ⟨#[], #[.slice none 0 0, .slice none 0 0, .int .i64 0], []⟩ 8 (by kernel_rfl) (by kernel_rfl) (by kernel_rfl)
      (x := ([.nil, .nil, .lit (.int .i64 0)], [], [])) (by kernel_rfl) rfl (by kernel_rfl)) ?_
  intro W base args ds gs before hval0 hW hk hsh htape τ d
  have hval : ∀ (j : Nat) t v, Try.f4.params[j]? = some t → args[j]? = some v → Value.okWide Try.prog W .any base t v := hval0
  have hsh' : W.ShapedOpen Try.prog := hsh
  have hW' := hW
  obtain ⟨p, q, hA0, hV, rfl, hfz, hnd⟩ := hW
  have hA : DataW.TrodAll enc Try.prog W 0 (fun _ => true) true Try.f4.params.toList args.toList ds p := hA0
  rw [Try.params4] at hA hval
  obtain ⟨v0, vs0, d0, ds0, p0, q0, hargs, rfl, rfl, h0, r0⟩ := trodAll_cons hA
  obtain ⟨v1, vs1, d1, ds1, p1, q1, rfl, rfl, rfl, h1, r1⟩ := trodAll_cons r0
  obtain ⟨v2, vs2, d2, ds2, p2, q2, rfl, rfl, rfl, h2, r2⟩ := trodAll_cons r1
  obtain ⟨rfl, rfl, rfl⟩ := trodAll_nil r2
  obtain rfl : args = #[v0, v1, v2] := by cases args; simp_all
  obtain ⟨rfl, rfl⟩ := trodVars_none hV
  simp only [List.append_nil] at hW' hk
  have hB := small_bound hk
  have k0 := h0
  have lt0 : ∀ x ∈ p0, x.block < W.heap.size := by obtain ⟨m, hm⟩ := k0; exact DataW.trod_lt m _ _ _ hm
  obtain ⟨A, L1, c1, pa, rfl, hL1, hL2, htold, hnil, hLA⟩ := open_pages Try.underlying39 Try.underlying22 Try.underlying5 (by kernel_rfl) (by kernel_rfl) (hval 0 39 v0 rfl rfl) h0
  have b0 := len_bulk Try.underlying39 h0
  have k1 := h1
  have lt1 : ∀ x ∈ p1, x.block < W.heap.size := by obtain ⟨m, hm⟩ := k1; exact DataW.trod_lt m _ _ _ hm
  obtain ⟨B, L2, c2, pb, rfl, hM1, hM2, btold, bnil, hLB⟩ := open_pages Try.underlying39 Try.underlying22 Try.underlying5 (by kernel_rfl) (by kernel_rfl) (hval 1 39 v1 rfl rfl) h1
  have b1 := len_bulk Try.underlying39 h1
  have k2 := h2
  have lt2 : ∀ x ∈ p2, x.block < W.heap.size := by obtain ⟨m, hm⟩ := k2; exact DataW.trod_lt m _ _ _ hm
  obtain ⟨x2, rfl, hx2, -, w2⟩ := open_int Try.underlying3 (hval 2 3 v2 rfl rfl) h2
  have bd2 := bounds_i64 w2
  have hsum : L1 + L2 ≤ 1048576 := by
    simp only [Rows.uptoBulkAll] at hB
    omega
  clear hA0 hval0
  obtain ⟨A0, e0, hA1⟩ := lw_args (G := Try.prog.globals.size) htold hLA
  obtain ⟨B0, e1, hB1⟩ := lw_args (G := Try.prog.globals.size) btold hLB
  have hm : (#[.slice A L1 c1, .slice B L2 c2, .int .i64 x2] : Array Value).map (clA Try.prog.globals.size W) = #[.slice A0 L1 c1, .slice B0 L2 c2, .int .i64 x2] := by
    simp only [List.map_toArray, List.map_cons, List.map_nil]
    rw [show clA Try.prog.globals.size W (.slice A L1 c1) = _ from e0, show clA Try.prog.globals.size W (.slice B L2 c2) = _ from e1]
    rfl
  refine law_wins (P := Try.prog) (ok := fun i => okL.contains i) (c := kE 0) blF body ?_ τ d
  rw [hm]
  refine jo1 (A := A0) (B := B0) (L1 := L1) (c1 := c1) (L2 := L2) (c2 := c2) (pa := pa) (pb := pb) (z := x2) (en_sound (told W)) (law_ok hsh' _ _) (fun _ _ h => h) (fun w ho hlo hst => ?_) bd2.1 bd2.2 hA1 hB1 (by omega) (by omega) (by simp [Try.ntmps4]) (by simp) (by simp) (by simp)
  have bel : Below W.heap.size W w.blind := by
    refine ⟨hst.1, htape.symm, hst.2, ?_, ho⟩
    rcases Nat.eq_zero_or_pos W.heap.size with h | h
    · omega
    · have : W.heap.size - 1 < w.heap.size := hlo _ (by omega)
      show W.heap.size ≤ w.heap.size
      omega
  exact ⟨⟨_, _, _, [], _, [], hW', trodAll_mk1 (shut_bool Try.underlying4 _), (trodAll_cons_mk (Below.trod laidOut (by kernel_rfl) (of_decide_eq_true (by kernel_rfl)) k0 bel lt0) (trodAll_cons_mk (Below.trod laidOut (by kernel_rfl) (of_decide_eq_true (by kernel_rfl)) k1 bel lt1) (trodAll_cons_mk (Below.trod laidOut (by kernel_rfl) (of_decide_eq_true (by kernel_rfl)) k2 bel lt2) trodAll_mk0))), rfl, bel.frame _, fun h => by cases h⟩, fun h => by cases h⟩

theorem over : Rows.scanJoinsUptoRow.holds Try.pinned (Rows.OpenSpec.upto Rows.scanJoinsSpec) := by
  refine ⟨by kernel_rfl, rfl, rfl, rfl, by kernel_rfl, by kernel_rfl, (show Try.prog.mayEnter = true from by kernel_rfl), ⟨rfl, rfl, rfl, rfl, rfl, rfl, rfl⟩, 4, Try.f4, by kernel_rfl, Try.func4, ⟨of_decide_eq_true (by kernel_rfl), of_decide_eq_true (by kernel_rfl)⟩,
    (fun h => by cases h), by kernel_rfl, of_decide_eq_true (by kernel_rfl), by unfold Func.isWrapper; first | (rw [if_pos (by decide +kernel)]; kernel_rfl) | (rw [if_neg (by decide +kernel)]; exact ⟨rfl, rfl⟩),
    by kernel_rfl, ⟨by kernel_rfl, by kernel_rfl, by kernel_rfl⟩, by kernel_rfl, by kernel_rfl, by kernel_rfl, by kernel_rfl, by kernel_rfl, ⟨by kernel_rfl, by kernel_rfl, by kernel_rfl⟩, ⟨by kernel_rfl, by kernel_rfl⟩, ⟨by kernel_rfl, by kernel_rfl, by kernel_rfl, by kernel_rfl⟩, ⟨by kernel_rfl, by kernel_rfl, by kernel_rfl, by kernel_rfl⟩, by kernel_rfl,
    (fun n hn => by cases hn), ⟨_, WideRow.started_initial, fun k hk => ?_⟩, [], rfl, fun os st _ H enc _ F => ?_⟩
  · have e : Try.prog.stopKnobs = [] := by kernel_rfl
    have hk' : k ∈ Try.prog.stopKnobs := hk
    rw [e] at hk'
    cases hk'
  · exact lifted os st H enc F (by kernel_rfl)

/-- The statement. -/
theorem proved : Rows.ScanJoinsUptoSaid := over
#print axioms proved
end Go.Proofs.Ytlaipigilikmbaa.scanJoinsLaw
