/- ScanCrews in company: true, and the old memory stands. -/
import Derived.Test.YtlaipigilikmbaaMa30
import Derived.Test.YtlaipigilikmbaaCrWMa
set_option linter.unusedVariables false
namespace Go.Proofs.Ytlaipigilikmbaa.CrW
open Go Go.Conc Go.RowKit Go.Proofs Go.Proofs.Ytlaipigilikmbaa Go.Proofs.Ytlaipigilikmbaa.Co Go.Proofs.Ytlaipigilikmbaa.Cl Go.Proofs.Ytlaipigilikmbaa.Ph Go.Proofs.Ytlaipigilikmbaa.LwW
attribute [local irreducible] kC kE
noncomputable def oo (i j : Nat) : Oper := ((opsOf (kC i))[j]?).getD ⟨none, .move (.tmp 0), 0, "", #[], none⟩
theorem crF : Try.prog.funcs[6]? = some Try.f6 := Try.func6
theorem okb1 : okCodeB Try.prog (fun i => okL.contains i) (fun i => exL.contains i) (kC 1) = true := by decide +kernel
theorem ok1 (ro : Nat → Prop) : Co.OkCode Try.prog (EN ro) (kC 1) := en_code ro _ okb1
theorem okb3 : okCodeB Try.prog (fun i => okL.contains i) (fun i => exL.contains i) (kC 3) = true := by decide +kernel
theorem ok3 (ro : Nat → Prop) : Co.OkCode Try.prog (EN ro) (kC 3) := en_code ro _ okb3
theorem okb4 : okCodeB Try.prog (fun i => okL.contains i) (fun i => exL.contains i) (kC 4) = true := by decide +kernel
theorem ok4 (ro : Nat → Prop) : Co.OkCode Try.prog (EN ro) (kC 4) := en_code ro _ okb4
theorem okb5 : okCodeB Try.prog (fun i => okL.contains i) (fun i => exL.contains i) (kC 5) = true := by decide +kernel
theorem ok5 (ro : Nat → Prop) : Co.OkCode Try.prog (EN ro) (kC 5) := en_code ro _ okb5
theorem okb8 : okCodeB Try.prog (fun i => okL.contains i) (fun i => exL.contains i) (kC 8) = true := by decide +kernel
theorem ok8 (ro : Nat → Prop) : Co.OkCode Try.prog (EN ro) (kC 8) := en_code ro _ okb8
theorem okb9 : okCodeB Try.prog (fun i => okL.contains i) (fun i => exL.contains i) (kC 9) = true := by decide +kernel
theorem ok9 (ro : Nat → Prop) : Co.OkCode Try.prog (EN ro) (kC 9) := en_code ro _ okb9
theorem okb12 : okCodeB Try.prog (fun i => okL.contains i) (fun i => exL.contains i) (kC 12) = true := by decide +kernel
theorem ok12 (ro : Nat → Prop) : Co.OkCode Try.prog (EN ro) (kC 12) := en_code ro _ okb12
theorem okb13 : okCodeB Try.prog (fun i => okL.contains i) (fun i => exL.contains i) (kE 13) = true := by decide +kernel
theorem ok13 (ro : Nat → Prop) : Co.OkCode Try.prog (EN ro) (kE 13) := en_code ro _ okb13
theorem kr0 : kC 0 = .region 0 (opsOf (kC 0)) false := by kernel_rfl
theorem ks0 : (opsOf (kC 0)).size = 1 := by kernel_rfl
theorem ko0_0 : (opsOf (kC 0))[0]? = some (oo 0 0) := by kernel_rfl
theorem h0_0 : Hands (oo 0 0) 6 (.const (.bool false)) := ⟨by kernel_rfl, .inr (by kernel_rfl), by kernel_rfl⟩
theorem kr2 : kC 2 = .region 2 (opsOf (kC 2)) false := by kernel_rfl
theorem ks2 : (opsOf (kC 2)).size = 8 := by kernel_rfl
theorem ko2_0 : (opsOf (kC 2))[0]? = some (oo 2 0) := by kernel_rfl
theorem ko2_1 : (opsOf (kC 2))[1]? = some (oo 2 1) := by kernel_rfl
theorem ko2_2 : (opsOf (kC 2))[2]? = some (oo 2 2) := by kernel_rfl
theorem ko2_3 : (opsOf (kC 2))[3]? = some (oo 2 3) := by kernel_rfl
theorem ko2_4 : (opsOf (kC 2))[4]? = some (oo 2 4) := by kernel_rfl
theorem ko2_5 : (opsOf (kC 2))[5]? = some (oo 2 5) := by kernel_rfl
theorem ko2_6 : (opsOf (kC 2))[6]? = some (oo 2 6) := by kernel_rfl
theorem ko2_7 : (opsOf (kC 2))[7]? = some (oo 2 7) := by kernel_rfl
theorem h2_0 : Hands (oo 2 0) 25 (.tmp 7) := ⟨by kernel_rfl, .inl (by kernel_rfl), by kernel_rfl⟩
theorem h2_1 : (oo 2 1).op = .buildSlice 39 1 #[(0, .tmp 25)] ∧ (oo 2 1).guard = none ∧ (oo 2 1).dst = some 26 := ⟨by kernel_rfl, by kernel_rfl, by kernel_rfl⟩
theorem h2_1b : okOpB Try.prog (fun i => okL.contains i) (fun i => exL.contains i) (oo 2 1).op = true := by kernel_rfl
theorem h2_1k (ro : Nat → Prop) : Co.OkOp Try.prog (EN ro) (oo 2 1).op := okOp_of (E := EN ro) rfl (exL_ok ro) h2_1b
theorem h2_1r (A : Option Addr) (n c : Nat) (w : World) : (execOp (fun _ => .slice A n c) (oo 2 1)).run Try.prog w = .ok (.value (.slice (some ⟨w.heap.size, 0, none⟩) 1 1)) { w with heap := w.heap.push (.cells #[.slice A n c] 22 (0, 0)) } := by kernel_rfl
theorem h2_2 : CallsOf (oo 2 2) 14 27 (.tmp 26) (.const (.int .i64 1)) := ⟨by kernel_rfl, by kernel_rfl, fun t' w => by kernel_rfl, fun t' w => by kernel_rfl⟩
theorem h2_3 : Hands (oo 2 3) 24 (.tmp 27) := ⟨by kernel_rfl, .inl (by kernel_rfl), by kernel_rfl⟩
theorem h2_4 : Parts (oo 2 4) 28 24 0 := ⟨by kernel_rfl, by kernel_rfl, by kernel_rfl⟩
theorem h2_5 : Parts (oo 2 5) 29 24 1 := ⟨by kernel_rfl, by kernel_rfl, by kernel_rfl⟩
theorem h2_6 : Hands (oo 2 6) 9 (.tmp 28) := ⟨by kernel_rfl, .inr (by kernel_rfl), by kernel_rfl⟩
theorem h2_7 : Hands (oo 2 7) 10 (.tmp 29) := ⟨by kernel_rfl, .inr (by kernel_rfl), by kernel_rfl⟩
theorem kr6 : kC 6 = .region 7 (opsOf (kC 6)) false := by kernel_rfl
theorem ks6 : (opsOf (kC 6)).size = 8 := by kernel_rfl
theorem ko6_0 : (opsOf (kC 6))[0]? = some (oo 6 0) := by kernel_rfl
theorem ko6_1 : (opsOf (kC 6))[1]? = some (oo 6 1) := by kernel_rfl
theorem ko6_2 : (opsOf (kC 6))[2]? = some (oo 6 2) := by kernel_rfl
theorem ko6_3 : (opsOf (kC 6))[3]? = some (oo 6 3) := by kernel_rfl
theorem ko6_4 : (opsOf (kC 6))[4]? = some (oo 6 4) := by kernel_rfl
theorem ko6_5 : (opsOf (kC 6))[5]? = some (oo 6 5) := by kernel_rfl
theorem ko6_6 : (opsOf (kC 6))[6]? = some (oo 6 6) := by kernel_rfl
theorem ko6_7 : (opsOf (kC 6))[7]? = some (oo 6 7) := by kernel_rfl
theorem h6_0 : Hands (oo 6 0) 55 (.tmp 0) := ⟨by kernel_rfl, .inl (by kernel_rfl), by kernel_rfl⟩
theorem h6_1 : Hands (oo 6 1) 56 (.tmp 11) := ⟨by kernel_rfl, .inl (by kernel_rfl), by kernel_rfl⟩
theorem h6_2 : CallsOf (oo 6 2) 14 57 (.tmp 55) (.tmp 56) := ⟨by kernel_rfl, by kernel_rfl, fun t' w => by kernel_rfl, fun t' w => by kernel_rfl⟩
theorem h6_3 : Hands (oo 6 3) 54 (.tmp 57) := ⟨by kernel_rfl, .inl (by kernel_rfl), by kernel_rfl⟩
theorem h6_4 : Parts (oo 6 4) 58 54 0 := ⟨by kernel_rfl, by kernel_rfl, by kernel_rfl⟩
theorem h6_5 : Parts (oo 6 5) 59 54 1 := ⟨by kernel_rfl, by kernel_rfl, by kernel_rfl⟩
theorem h6_6 : Hands (oo 6 6) 13 (.tmp 58) := ⟨by kernel_rfl, .inr (by kernel_rfl), by kernel_rfl⟩
theorem h6_7 : Hands (oo 6 7) 8 (.tmp 59) := ⟨by kernel_rfl, .inr (by kernel_rfl), by kernel_rfl⟩
theorem kr7 : kC 7 = .region 8 (opsOf (kC 7)) false := by kernel_rfl
theorem ks7 : (opsOf (kC 7)).size = 8 := by kernel_rfl
theorem ko7_0 : (opsOf (kC 7))[0]? = some (oo 7 0) := by kernel_rfl
theorem ko7_1 : (opsOf (kC 7))[1]? = some (oo 7 1) := by kernel_rfl
theorem ko7_2 : (opsOf (kC 7))[2]? = some (oo 7 2) := by kernel_rfl
theorem ko7_3 : (opsOf (kC 7))[3]? = some (oo 7 3) := by kernel_rfl
theorem ko7_4 : (opsOf (kC 7))[4]? = some (oo 7 4) := by kernel_rfl
theorem ko7_5 : (opsOf (kC 7))[5]? = some (oo 7 5) := by kernel_rfl
theorem ko7_6 : (opsOf (kC 7))[6]? = some (oo 7 6) := by kernel_rfl
theorem ko7_7 : (opsOf (kC 7))[7]? = some (oo 7 7) := by kernel_rfl
theorem h7_0 : Hands (oo 7 0) 61 (.tmp 0) := ⟨by kernel_rfl, .inl (by kernel_rfl), by kernel_rfl⟩
theorem h7_1 : Hands (oo 7 1) 62 (.tmp 12) := ⟨by kernel_rfl, .inl (by kernel_rfl), by kernel_rfl⟩
theorem h7_2 : CallsOf (oo 7 2) 14 63 (.tmp 61) (.tmp 62) := ⟨by kernel_rfl, by kernel_rfl, fun t' w => by kernel_rfl, fun t' w => by kernel_rfl⟩
theorem h7_3 : Hands (oo 7 3) 60 (.tmp 63) := ⟨by kernel_rfl, .inl (by kernel_rfl), by kernel_rfl⟩
theorem h7_4 : Parts (oo 7 4) 64 60 0 := ⟨by kernel_rfl, by kernel_rfl, by kernel_rfl⟩
theorem h7_5 : Parts (oo 7 5) 65 60 1 := ⟨by kernel_rfl, by kernel_rfl, by kernel_rfl⟩
theorem h7_6 : Hands (oo 7 6) 14 (.tmp 64) := ⟨by kernel_rfl, .inr (by kernel_rfl), by kernel_rfl⟩
theorem h7_7 : Hands (oo 7 7) 10 (.tmp 65) := ⟨by kernel_rfl, .inr (by kernel_rfl), by kernel_rfl⟩
theorem kr10 : kC 10 = .region 12 (opsOf (kC 10)) false := by kernel_rfl
theorem ks10 : (opsOf (kC 10)).size = 8 := by kernel_rfl
theorem ko10_0 : (opsOf (kC 10))[0]? = some (oo 10 0) := by kernel_rfl
theorem ko10_1 : (opsOf (kC 10))[1]? = some (oo 10 1) := by kernel_rfl
theorem ko10_2 : (opsOf (kC 10))[2]? = some (oo 10 2) := by kernel_rfl
theorem ko10_3 : (opsOf (kC 10))[3]? = some (oo 10 3) := by kernel_rfl
theorem ko10_4 : (opsOf (kC 10))[4]? = some (oo 10 4) := by kernel_rfl
theorem ko10_5 : (opsOf (kC 10))[5]? = some (oo 10 5) := by kernel_rfl
theorem ko10_6 : (opsOf (kC 10))[6]? = some (oo 10 6) := by kernel_rfl
theorem ko10_7 : (opsOf (kC 10))[7]? = some (oo 10 7) := by kernel_rfl
theorem h10_0 : Hands (oo 10 0) 82 (.tmp 0) := ⟨by kernel_rfl, .inl (by kernel_rfl), by kernel_rfl⟩
theorem h10_1 : Hands (oo 10 1) 83 (.tmp 11) := ⟨by kernel_rfl, .inl (by kernel_rfl), by kernel_rfl⟩
theorem h10_2 : CallsOf (oo 10 2) 16 84 (.tmp 82) (.tmp 83) := ⟨by kernel_rfl, by kernel_rfl, fun t' w => by kernel_rfl, fun t' w => by kernel_rfl⟩
theorem h10_3 : Hands (oo 10 3) 81 (.tmp 84) := ⟨by kernel_rfl, .inl (by kernel_rfl), by kernel_rfl⟩
theorem h10_4 : Parts (oo 10 4) 85 81 0 := ⟨by kernel_rfl, by kernel_rfl, by kernel_rfl⟩
theorem h10_5 : Parts (oo 10 5) 86 81 1 := ⟨by kernel_rfl, by kernel_rfl, by kernel_rfl⟩
theorem h10_6 : Hands (oo 10 6) 16 (.tmp 85) := ⟨by kernel_rfl, .inr (by kernel_rfl), by kernel_rfl⟩
theorem h10_7 : Hands (oo 10 7) 8 (.tmp 86) := ⟨by kernel_rfl, .inr (by kernel_rfl), by kernel_rfl⟩
theorem kr11 : kC 11 = .region 13 (opsOf (kC 11)) false := by kernel_rfl
theorem ks11 : (opsOf (kC 11)).size = 8 := by kernel_rfl
theorem ko11_0 : (opsOf (kC 11))[0]? = some (oo 11 0) := by kernel_rfl
theorem ko11_1 : (opsOf (kC 11))[1]? = some (oo 11 1) := by kernel_rfl
theorem ko11_2 : (opsOf (kC 11))[2]? = some (oo 11 2) := by kernel_rfl
theorem ko11_3 : (opsOf (kC 11))[3]? = some (oo 11 3) := by kernel_rfl
theorem ko11_4 : (opsOf (kC 11))[4]? = some (oo 11 4) := by kernel_rfl
theorem ko11_5 : (opsOf (kC 11))[5]? = some (oo 11 5) := by kernel_rfl
theorem ko11_6 : (opsOf (kC 11))[6]? = some (oo 11 6) := by kernel_rfl
theorem ko11_7 : (opsOf (kC 11))[7]? = some (oo 11 7) := by kernel_rfl
theorem h11_0 : Hands (oo 11 0) 88 (.tmp 0) := ⟨by kernel_rfl, .inl (by kernel_rfl), by kernel_rfl⟩
theorem h11_1 : Hands (oo 11 1) 89 (.tmp 12) := ⟨by kernel_rfl, .inl (by kernel_rfl), by kernel_rfl⟩
theorem h11_2 : CallsOf (oo 11 2) 16 90 (.tmp 88) (.tmp 89) := ⟨by kernel_rfl, by kernel_rfl, fun t' w => by kernel_rfl, fun t' w => by kernel_rfl⟩
theorem h11_3 : Hands (oo 11 3) 87 (.tmp 90) := ⟨by kernel_rfl, .inl (by kernel_rfl), by kernel_rfl⟩
theorem h11_4 : Parts (oo 11 4) 91 87 0 := ⟨by kernel_rfl, by kernel_rfl, by kernel_rfl⟩
theorem h11_5 : Parts (oo 11 5) 92 87 1 := ⟨by kernel_rfl, by kernel_rfl, by kernel_rfl⟩
theorem h11_6 : Hands (oo 11 6) 17 (.tmp 91) := ⟨by kernel_rfl, .inr (by kernel_rfl), by kernel_rfl⟩
theorem h11_7 : Hands (oo 11 7) 10 (.tmp 92) := ⟨by kernel_rfl, .inr (by kernel_rfl), by kernel_rfl⟩
theorem _root_.Go.Proofs.Ytlaipigilikmbaa.Cl.Left.at {t t' : Array Value} {S : List Nat} {d1 d2 : Nat} {a b v : Value} (h : Cl.Left t t' S d1 d2 a b) {s : Nat} (hs : s ∉ S) (hv : t[s]? = some v) : t'[s]? = some v := by rw [h.keep s hs]; exact hv
theorem _root_.Go.Proofs.Ytlaipigilikmbaa.Cl.Kp.at {N : Nat} {S : List Nat} {t t' : Array Value} (h : Kp N S (fun i => t.getD i undef) t') {s : Nat} {v : Value} (hs : s ∈ S) (hv : t[s]? = some v) : t'[s]? = some v := by rw [h.2 s hs]; exact congrArg some (getD_of hv)
noncomputable abbrev EE (W : World) : Env := ⟨fun i => okL.contains i, told W, Try.prog.globals.size⟩
abbrev K0 (W : World) : Nat → Prop := fun x => x < W.heap.size
section
variable {Q : Value → World → Prop} {W : World} {A : Option Addr} {L cp nx ny : Nat} {pg : Nat → List UInt8} {Z : Nat → Prop} {t : Array Value} {w : World}
/-- The end. -/
theorem cr_end (hq : ∀ w, (∀ x, x < W.heap.size → w.heap[x]? = W.heap[x]?) → (∀ x, x < W.heap.size → x < w.heap.size) → w.os = W.os ∧ w.output = W.output → Q (.bool true) w) {todo : List Item} (h : RX 108 6 (.bool true) t w.heap) : WinsR Try.prog Q (EE W) (K0 W) W Z [] 6 t todo .returning w :=
  winsR_end crF (by kernel_rfl) (fun τ d => (results_tmp rfl _ _ _).trans (by rw [Array.getD_eq_getD_getElem?, h.2]; rfl)) hq
/-- From the two answers of States on. -/
theorem cr3 (hS : Sound Try.prog (EE W)) (hl : LawOk (EE W) (K0 W) W) (HKZ : ∀ x, x < W.heap.size → ¬ Z x) (hq : ∀ w, (∀ x, x < W.heap.size → w.heap[x]? = W.heap[x]?) → (∀ x, x < W.heap.size → x < w.heap.size) → w.os = W.os ∧ w.output = W.output → Q (.bool true) w)
    (hA : LArgs w A L pg) (hL : L ≤ 4096) (hx1 : 1 ≤ nx) (hx2 : nx ≤ 8) (hy1 : 1 ≤ ny) (hy2 : ny ≤ 8) (HT : t.size = 108) (b0 : t[0]? = some (.slice A L cp)) (b11 : t[11]? = some (.int .i64 nx)) (b12 : t[12]? = some (.int .i64 ny)) (b15 : t[15]? = some (.bool true)) : WinsR Try.prog Q (EE W) (K0 W) W Z [] 6 t [.code (kE 10)] .run w := by
  rw [kE10]
  refine winsR_seq ?_
  rw [kr10]
  refine winsR_states8 hS hl HKZ (id := 12) (ops := opsOf (kC 10)) (p := 0) (q := 11) (s1 := 82) (s2 := 83) (s3 := 84) (s4 := 81) (e1 := 85) (e2 := 86) (d1 := 16) (d2 := 8) ks10 ko10_0 ko10_1 ko10_2 ko10_3 ko10_4 ko10_5 ko10_6 ko10_7 h10_0 h10_1 h10_2 h10_3 h10_4 h10_5 h10_6 h10_7 (by decide) (by decide) (by decide) (by rw [HT]; decide) (by rw [HT]; decide) b0 b11 hx1 hx2 hA ?_ fun t' h => absurd h (by omega)
  intro Z1 D1 u1 t1 _ HKZ1 hb1 ho1 hl1
  replace hb1 : HB w.heap u1.heap := .of hb1
  have HT1 := hl1.size.trans HT
  rw [kE11]
  refine winsR_seq ?_
  rw [kr11]
  clear HKZ
  have HKZ := HKZ1
  have HT := HT1
  refine winsR_states8 hS hl HKZ (id := 13) (ops := opsOf (kC 11)) (p := 0) (q := 12) (s1 := 88) (s2 := 89) (s3 := 90) (s4 := 87) (e1 := 91) (e2 := 92) (d1 := 17) (d2 := 10) ks11 ko11_0 ko11_1 ko11_2 ko11_3 ko11_4 ko11_5 ko11_6 ko11_7 h11_0 h11_1 h11_2 h11_3 h11_4 h11_5 h11_6 h11_7 (by decide) (by decide) (by decide) (by rw [HT]; decide) (by rw [HT]; decide) (hl1.at (by decide) b0) (hl1.at (by decide) b12) hy1 hy2 (hb1.args hA) ?_ fun t' h => absurd h (by omega)
  intro Z2 D2 u2 t2 _ HKZ2 hb2 ho2 hl2
  replace hb2 : HB u1.heap u2.heap := .of hb2
  have HT2 := hl2.size.trans HT
  rw [kE12]
  refine winsR_seq ?_
  obtain ⟨vs, hvs⟩ : ∃ vs, vs = (List.range L).map fun k => (opn (pg k)).2.2.2 := ⟨_, rfl⟩
  have ei : ((List.range L).map fun k => Value.int .i64 (opn (pg k)).2.2.2) = LwW.i64v vs := by
    rw [hvs]
    unfold LwW.i64v
    rw [List.map_map]
    rfl
  rw [ei] at ho1 ho2
  refine lwp hS (R := RV 108 [8, 10, 15] 18 (.bool true) u2 fun i => t2.getD i undef) ⟨_, crF⟩ (ok12 _) (fun τ d => p14' (Co.re u2 τ d) D1 D2 vs L L L (by rw [hvs]; simp) (Rd.of_own (hb2.own ho1)) (Rd.of_own ho2) (by omega) t2 HT2 (hl2.at (by decide) hl1.one) hl2.one) fun t3 u3 h3 => ?_
  obtain ⟨k3, -, k18⟩ := h3
  refine lret hS (R := RX 108 6 (.bool true)) ⟨_, crF⟩ (ok13 _) (fun τ d => p15' (Co.re u3 τ d) t3 k3.1 (Kp.at k3 (by decide) (hl2.at (by decide) hl1.two)) (Kp.at k3 (by decide) hl2.two) (Kp.at k3 (by decide) (hl2.at (by decide) (hl1.at (by decide) b15))) k18) fun t4 u4 todo h4 => cr_end hq h4
/-- From the first of two calls of Newest on. -/
theorem cr2 (hS : Sound Try.prog (EE W)) (hl : LawOk (EE W) (K0 W) W) (HKZ : ∀ x, x < W.heap.size → ¬ Z x) (hq : ∀ w, (∀ x, x < W.heap.size → w.heap[x]? = W.heap[x]?) → (∀ x, x < W.heap.size → x < w.heap.size) → w.os = W.os ∧ w.output = W.output → Q (.bool true) w)
    (hA : LArgs w A L pg) (hx1 : 1 ≤ nx) (hx2 : nx ≤ 8) (hy1 : 1 ≤ ny) (hy2 : ny ≤ 8) (HT : t.size = 108) (b0 : t[0]? = some (.slice A L cp)) (b11 : t[11]? = some (.int .i64 nx)) (b12 : t[12]? = some (.int .i64 ny)) : WinsR Try.prog Q (EE W) (K0 W) W Z [] 6 t [.code (kE 6)] .run w := by
  rw [kE6]
  refine winsR_seq ?_
  rw [kr6]
  refine winsR_newest8 hS hl HKZ (id := 7) (ops := opsOf (kC 6)) (p := 0) (q := 11) (s1 := 55) (s2 := 56) (s3 := 57) (s4 := 54) (e1 := 58) (e2 := 59) (d1 := 13) (d2 := 8) ks6 ko6_0 ko6_1 ko6_2 ko6_3 ko6_4 ko6_5 ko6_6 ko6_7 h6_0 h6_1 h6_2 h6_3 h6_4 h6_5 h6_6 h6_7 (by decide) (by decide) (by decide) (by rw [HT]; decide) (by rw [HT]; decide) b0 b11 hx1 hx2 hA ?_ ?_
  · intro Z1 l D1 cap1 u1 t1 hL hN1 HKZ1 hb1 ho1 hl1
    replace hb1 : HB w.heap u1.heap := .of hb1
    have HT1 := hl1.size.trans HT
    rw [kE7]
    refine winsR_seq ?_
    rw [kr7]
    clear HKZ
    have HKZ := HKZ1
    have HT := HT1
    refine winsR_newest8 hS hl HKZ (id := 8) (ops := opsOf (kC 7)) (p := 0) (q := 12) (s1 := 61) (s2 := 62) (s3 := 63) (s4 := 60) (e1 := 64) (e2 := 65) (d1 := 14) (d2 := 10) ks7 ko7_0 ko7_1 ko7_2 ko7_3 ko7_4 ko7_5 ko7_6 ko7_7 h7_0 h7_1 h7_2 h7_3 h7_4 h7_5 h7_6 h7_7 (by decide) (by decide) (by decide) (by rw [HT]; decide) (by rw [HT]; decide) (hl1.at (by decide) b0) (hl1.at (by decide) b12) hy1 hy2 (hb1.args hA) ?_ fun t' h => absurd h (by omega)
    intro Z2 l2 D2 cap2 u2 t2 _ hN2 HKZ2 hb2 ho2 hl2
    replace hb2 : HB u1.heap u2.heap := .of hb2
    have HT2 := hl2.size.trans HT
    obtain rfl : l2 = l := hN2.uniq hN1
    have hlen : l2.length ≤ 9223372036854775807 := by
      rcases ho2.2 with ⟨-, h0⟩ | ⟨_, _, _, -, -, -, h1, h2, -⟩
      · omega
      · simp only [maxLen] at h2
        omega
    rw [kE8]
    refine winsR_seq ?_
    refine lwp hS (R := RV 108 [0, 8, 10, 11, 12] 15 (.bool true) u2 fun i => t2.getD i undef) ⟨_, crF⟩ (ok8 _) (fun τ d => p9' (Co.re u2 τ d) D1 D2 l2.length cap1 cap2 _ _ _ _ (rdF_own (hb2.own ho1)) (rdF_own ho2) hlen t2 HT2 (hl2.at (by decide) hl1.one) hl2.one) fun t3 u3 h3 => ?_
    obtain ⟨k3, e3, k15⟩ := h3
    rw [kE9]
    refine winsR_seq ?_
    refine lwp hS (R := RK 108 [0, 11, 12, 15] u3 fun i => t3.getD i undef) ⟨_, crF⟩ (ok9 _) (fun τ d => p10' (Co.re u3 τ d) t3 k3.1 (Kp.at k3 (by decide) (hl2.at (by decide) hl1.two)) (Kp.at k3 (by decide) hl2.two)) fun t4 u4 h4 => ?_
    obtain ⟨k4, e4⟩ := h4
    have hb4 : HB w.heap u4.heap := by rw [e4, e3]; exact hb1.trans hb2
    exact cr3 hS hl HKZ2 hq (hb4.args hA) hL hx1 hx2 hy1 hy2 k4.1 (Kp.at k4 (by decide) (Kp.at k3 (by decide) (hl2.at (by decide) (hl1.at (by decide) b0)))) (Kp.at k4 (by decide) (Kp.at k3 (by decide) (hl2.at (by decide) (hl1.at (by decide) b11)))) (Kp.at k4 (by decide) (Kp.at k3 (by decide) (hl2.at (by decide) (hl1.at (by decide) b12)))) (Kp.at k4 (by decide) k15)
  · intro t1 hL hl1
    have HT1 := hl1.size.trans HT
    rw [kE7]
    refine winsR_seq ?_
    rw [kr7]
    have HT := HT1
    refine winsR_newest8 hS hl HKZ (id := 8) (ops := opsOf (kC 7)) (p := 0) (q := 12) (s1 := 61) (s2 := 62) (s3 := 63) (s4 := 60) (e1 := 64) (e2 := 65) (d1 := 14) (d2 := 10) ks7 ko7_0 ko7_1 ko7_2 ko7_3 ko7_4 ko7_5 ko7_6 ko7_7 h7_0 h7_1 h7_2 h7_3 h7_4 h7_5 h7_6 h7_7 (by decide) (by decide) (by decide) (by rw [HT]; decide) (by rw [HT]; decide) (hl1.at (by decide) b0) (hl1.at (by decide) b12) hy1 hy2 hA (fun _ _ _ _ _ _ h => absurd h (by omega)) fun t2 _ hl2 => ?_
    have HT2 := hl2.size.trans HT
    rw [kE8]
    refine winsR_seq ?_
    refine lwp hS (R := RV 108 [0, 8, 10, 11, 12] 15 (.bool true) w fun i => t2.getD i undef) ⟨_, crF⟩ (ok8 _) (fun τ d => p9' (Co.re w τ d) none none 0 0 0 (fun _ => 0) (fun _ => 0) (fun _ => 0) (fun _ => 0) (fun i hi => by omega) (fun i hi => by omega) (by omega) t2 HT2 (hl2.at (by decide) hl1.one) hl2.one) fun t3 u3 h3 => ?_
    obtain ⟨k3, e3, k15⟩ := h3
    rw [kE9]
    refine winsR_seq ?_
    refine lret hS (R := RX 108 6 (.bool true)) ⟨_, crF⟩ (ok9 _) (fun τ d => p10f' (Co.re u3 τ d) A L cp _ _ _ _ hL t3 k3.1 (Kp.at k3 (by decide) (hl2.at (by decide) (hl1.at (by decide) b0))) (Kp.at k3 (by decide) (hl2.at (by decide) hl1.two)) (Kp.at k3 (by decide) hl2.two) k15) fun t4 u4 todo h4 => cr_end hq h4
/-- The law, from its beginning. -/
theorem cr1 (hS : Sound Try.prog (EE W)) (hl : LawOk (EE W) (K0 W) W) (HKZ : ∀ x, x < W.heap.size → ¬ Z x) (hq : ∀ w, (∀ x, x < W.heap.size → w.heap[x]? = W.heap[x]?) → (∀ x, x < W.heap.size → x < w.heap.size) → w.os = W.os ∧ w.output = W.output → Q (.bool true) w) {x y : Int} (hx1 : -9223372036854775808 ≤ x) (hx2 : x ≤ 9223372036854775807) (hy1 : -9223372036854775808 ≤ y) (hy2 : y ≤ 9223372036854775807)
    (hA : LArgs w A L pg) (HT : t.size = 108) (b0 : t[0]? = some (.slice A L cp)) (b1 : t[1]? = some (.int .i64 x)) (b2 : t[2]? = some (.int .i64 y)) : WinsR Try.prog Q (EE W) (K0 W) W Z [] 6 t [.code (kE 0)] .run w := by
  rw [kE0]
  refine winsR_seq ?_
  rw [kr0]
  refine winsR_reg ?_
  rw [ks0, show List.range 1 = [0] from rfl]
  refine winsR_move hS (v := .bool false) (d := 6) (x := .const (.bool false)) ko0_0 h0_0.1 h0_0.2.1 h0_0.2.2 (fun ok f => .bool _) rfl (winsR_inDone ?_)
  have HT1 : (t.setIfInBounds 6 (.bool false)).size = 108 := by simpa using HT
  have c0 : (t.setIfInBounds 6 (.bool false))[0]? = _ := (set_ne (by decide)).trans b0
  have c1 : (t.setIfInBounds 6 (.bool false))[1]? = _ := (set_ne (by decide)).trans b1
  have c2 : (t.setIfInBounds 6 (.bool false))[2]? = _ := (set_ne (by decide)).trans b2
  generalize t.setIfInBounds 6 (.bool false) = t1 at HT1 c0 c1 c2 ⊢
  clear b0 b1 b2
  rw [kE1]
  refine winsR_seq ?_
  refine lwp hS (R := R1 w fun i => t1.getD i undef) ⟨_, crF⟩ (ok1 _) (fun τ d => p1' (Co.re w τ d) t1 HT1) fun t2 u2 h2 => ?_
  obtain ⟨k2, k8, hb2, D, c, k7, ho2⟩ := h2
  have HT := k2.1
  rw [kE2]
  refine winsR_seq ?_
  rw [kr2]
  refine winsR_newest1 hS hl HKZ (id := 2) (ops := opsOf (kC 2)) (p := 7) (s1 := 25) (s2 := 26) (s3 := 27) (s4 := 24) (e1 := 28) (e2 := 29) (d1 := 9) (d2 := 10) ks2 ko2_0 ko2_1 ko2_2 ko2_3 ko2_4 ko2_5 ko2_6 ko2_7 h2_0 h2_1 (h2_1k _) h2_1r h2_2 h2_3 h2_4 h2_5 h2_6 h2_7 (by decide) (by rw [HT]; decide) (by rw [HT]; decide) k7 (pg_own (own_of_hW ho2) (by omega)) fun Z1 l D1 cap u3 t3 hN HKZ1 hb3 ho3 hl3 => ?_
  obtain rfl := pk_found hN
  replace hb3 : HB u2.heap u3.heap := .of hb3
  have HT3 := hl3.size.trans HT
  obtain ⟨g, rfl, hc⟩ : ∃ g, D1 = some ⟨g, 0, none⟩ ∧ u3.cell? ⟨g, 0, none⟩ = some (.int .i64 3) := by
    obtain ⟨b, off, e1, e2, -⟩ := rdF_own ho3 0 (by decide)
    rcases ho3.2 with ⟨-, h0⟩ | ⟨g, _, _, hv, -⟩
    · simp at h0
    · injection hv with hv
      subst hv
      cases e1
      exact ⟨_, rfl, e2⟩
  rw [kE3]
  refine winsR_seq ?_
  refine lwp hS (R := RK 108 [0, 1, 2] u3 fun i => t3.getD i undef) ⟨_, crF⟩ (ok3 _) (fun τ d => p3' (Co.re u3 τ d) g cap hc t3 HT3 (hl3.at (by decide) k8) hl3.one hl3.two) fun t4 u4 h4 => ?_
  obtain ⟨k4, e4⟩ := h4
  have d0 := Kp.at k4 (s := 0) (by decide) (hl3.at (by decide) (Kp.at k2 (by decide) c0))
  have d1 := Kp.at k4 (s := 1) (by decide) (hl3.at (by decide) (Kp.at k2 (by decide) c1))
  have d2 := Kp.at k4 (s := 2) (by decide) (hl3.at (by decide) (Kp.at k2 (by decide) c2))
  rw [kE4]
  refine winsR_seq ?_
  refine lwp hS (R := RV 108 [0, 2] 11 (.int .i64 (1 + ((pickN x 8 : Nat) : Int))) u4 fun i => t4.getD i undef) ⟨_, crF⟩ (ok4 _) (fun τ d => p5' (Co.re u4 τ d) x hx1 hx2 t4 k4.1 d1) fun t5 u5 h5 => ?_
  obtain ⟨k5, e5, k11⟩ := h5
  rw [kE5]
  refine winsR_seq ?_
  refine lwp hS (R := RV 108 [0, 11] 12 (.int .i64 (1 + ((pickN y 8 : Nat) : Int))) u5 fun i => t5.getD i undef) ⟨_, crF⟩ (ok5 _) (fun τ d => p6' (Co.re u5 τ d) y hy1 hy2 t5 k5.1 (Kp.at k5 (by decide) d2)) fun t6 u6 h6 => ?_
  obtain ⟨k6, e6, k12⟩ := h6
  have hb6 : HB w.heap u6.heap := by rw [e6, e5, e4]; exact hb2.trans hb3
  have px := pickN_lt x 8 (by omega)
  have py := pickN_lt y 8 (by omega)
  exact cr2 (nx := 1 + pickN x 8) (ny := 1 + pickN y 8) hS hl HKZ1 hq (hb6.args hA) (by omega) (by omega) (by omega) (by omega) k6.1 (Kp.at k6 (by decide) (Kp.at k5 (by decide) d0)) ((Kp.at k6 (by decide) k11).trans (by rw [Int.natCast_add]; rfl)) (k12.trans (by rw [Int.natCast_add]; rfl))
end
end Go.Proofs.Ytlaipigilikmbaa.CrW
