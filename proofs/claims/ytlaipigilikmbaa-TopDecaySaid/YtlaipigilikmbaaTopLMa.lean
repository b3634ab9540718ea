/- TopDecay in company: true, and the old memory stands. -/
import Derived.Test.YtlaipigilikmbaaOneLMa
import Derived.Test.YtlaipigilikmbaaTopWMa
set_option linter.unusedVariables false
namespace Go.Proofs.Ytlaipigilikmbaa.TopW
open Go Go.Conc Go.RowKit Go.Proofs Go.Proofs.Ytlaipigilikmbaa Go.Proofs.Ytlaipigilikmbaa.Co Go.Proofs.Ytlaipigilikmbaa.Cl Go.Proofs.Ytlaipigilikmbaa.Ph Go.Proofs.Ytlaipigilikmbaa.LwW OneW
attribute [local irreducible] TopW.kC TopW.kE
noncomputable def oo (i j : Nat) : Oper := ((opsOf (TopW.kC i))[j]?).getD ⟨none, .move (.tmp 0), 0, "", #[], none⟩
theorem topF : Try.prog.funcs[3]? = some Try.f3 := Try.func3
theorem ok0 (ro : Nat → Prop) : Co.OkCode Try.prog (EN ro) (TopW.kC 0) := en_code ro _ (by decide +kernel)
theorem ok2 (ro : Nat → Prop) : Co.OkCode Try.prog (EN ro) (TopW.kE 2) := en_code ro _ (by decide +kernel)
theorem kr1 : TopW.kC 1 = .region 1 (opsOf (TopW.kC 1)) false := by kernel_rfl
theorem ks1 : (opsOf (TopW.kC 1)).size = 2 := by kernel_rfl
theorem ko1_0 : (opsOf (TopW.kC 1))[0]? = some (TopW.oo 1 0) := by kernel_rfl
theorem ko1_1 : (opsOf (TopW.kC 1))[1]? = some (TopW.oo 1 1) := by kernel_rfl
theorem h1_0g : (TopW.oo 1 0).guard = none := by kernel_rfl
theorem h1_0d : (TopW.oo 1 0).dst = some 23 := by kernel_rfl
theorem h1_0r (t' : Array Value) (w : World) : (execOp (Act.eval ⟨t', []⟩) (TopW.oo 1 0)).run Try.prog w = .ok (.enter 7 #[]) w := by kernel_rfl
theorem h1_0e (t' : Array Value) (w : World) : (execOp (Act.eval ⟨t', []⟩) (TopW.oo 1 0)).events Try.prog w #[] = #[] := by kernel_rfl
theorem h1_1 : Hands (TopW.oo 1 1) 7 (.tmp 23) := ⟨by kernel_rfl, .inr (by kernel_rfl), by kernel_rfl⟩
noncomputable abbrev EE (W : World) : Env := ⟨fun i => okL.contains i, told W, Try.prog.globals.size⟩
abbrev K0 (W : World) : Nat → Prop := fun x => x < W.heap.size
section
variable {Q : Value → World → Prop} {W : World} {Z : Nat → Prop} {t : Array Value} {w : World}
/-- The law, from its beginning. -/
theorem top1 (hl : LawOk (EE W) (K0 W) W) (HKZ : ∀ x, x < W.heap.size → ¬ Z x) (hq : ∀ w, (∀ x, x < W.heap.size → w.heap[x]? = W.heap[x]?) → (∀ x, x < W.heap.size → x < w.heap.size) → w.os = W.os ∧ w.output = W.output → Q (.bool true) w)
    {n k1 l1 s1 : Int} {D A : Option Addr} {d : List UInt8} {m cd L cA : Nat} {xs : List Int} (t1 : -9223372036854775808 ≤ n) (t2 : n ≤ 9223372036854775807) (hm : m = d.length) (rd : Rd w D (u8v d)) (hL : L = xs.length) (ra : Rd w A (i64v xs)) (hx : ∀ x ∈ xs, -9223372036854775808 ≤ x ∧ x ≤ 9223372036854775807) (hLm : L ≤ 9223372036854775807)
    (HT : t.size = 171) (b0 : t[0]? = some (.int .i64 n)) (b1 : t[1]? = some (.agg #[.int .i64 k1, .int .i64 l1, .int .i64 s1, .slice D m cd])) (b2 : t[2]? = some (.slice A L cA)) : WinsR Try.prog Q (EE W) (K0 W) W Z [] 3 t [.code (TopW.kE 0)] .run w := by
  have hS : Sound Try.prog (EE W) := en_sound _
  rw [TopW.kE0]
  refine winsR_seq ?_
  refine lwp hS (R := R0 k1 l1 s1 D m cd w fun i => t.getD i undef) ⟨_, topF⟩ (TopW.ok0 _) (fun τ d => p0 (Co.re w τ d) k1 l1 s1 D m cd t HT b1) fun t2' u2 h2 => ?_
  obtain ⟨k2, hb2, f, c4, hB⟩ := h2
  have c0 := kat k2 (s := 0) (by decide) b0
  have c2 := kat k2 (s := 2) (by decide) b2
  have HT2 := k2.1
  rw [TopW.kE1]
  refine winsR_seq ?_
  rw [TopW.kr1]
  refine winsR_reg ?_
  rw [TopW.ks1, show List.range 2 = [0, 1] from rfl]
  refine winsR_one hl HKZ TopW.ko1_0 (fun t' => by simp [Region.wanted, h1_0g]) h1_0r h1_0e fun Z1 HKZ1 => ?_
  rw [h1_0d]
  show WinsR Try.prog Q (EE W) (K0 W) W Z1 [] 3 (t2'.setIfInBounds 23 (.bool true)) (.inRegion (opsOf (TopW.kC 1)) [1] :: [.code (TopW.kE 2)]) .run u2
  refine winsR_move hS (v := .bool true) (d := 7) (x := .tmp 23) TopW.ko1_1 h1_1.1 h1_1.2.1 h1_1.2.2 trivial (ev_tmp (set_same (by rw [HT2]; decide))) (winsR_inDone ?_)
  have HT3 : ((t2'.setIfInBounds 23 (.bool true)).setIfInBounds 7 (.bool true)).size = 171 := by simpa using HT2
  have d0 : ((t2'.setIfInBounds 23 (.bool true)).setIfInBounds 7 (.bool true))[0]? = _ := (set_ne (by decide)).trans ((set_ne (by decide)).trans c0)
  have d2 : ((t2'.setIfInBounds 23 (.bool true)).setIfInBounds 7 (.bool true))[2]? = _ := (set_ne (by decide)).trans ((set_ne (by decide)).trans c2)
  have d4 : ((t2'.setIfInBounds 23 (.bool true)).setIfInBounds 7 (.bool true))[4]? = _ := (set_ne (by decide)).trans ((set_ne (by decide)).trans c4)
  have d7 : ((t2'.setIfInBounds 23 (.bool true)).setIfInBounds 7 (.bool true))[7]? = some (.bool true) := set_same (by simp [HT2])
  generalize (t2'.setIfInBounds 23 (.bool true)).setIfInBounds 7 (.bool true) = t3 at HT3 d0 d2 d4 d7 ⊢
  refine lret hS (R := RX 171 6 (.bool true)) ⟨_, topF⟩ (TopW.ok2 _) (fun τ d' => rest (Co.re u2 τ d') f n k1 l1 s1 D d m cd A xs L cA t1 t2 hB hm (HB.rd hb2 rd) hL (HB.rd hb2 ra) hx hLm t3 HT3 d0 d2 d4 d7) fun t4 u4 todo h4 => ?_
  exact winsR_end topF (by kernel_rfl) (fun τ d => (results_tmp rfl _ _ _).trans (by rw [Array.getD_eq_getD_getElem?, h4.2]; rfl)) hq
end
end Go.Proofs.Ytlaipigilikmbaa.TopW
