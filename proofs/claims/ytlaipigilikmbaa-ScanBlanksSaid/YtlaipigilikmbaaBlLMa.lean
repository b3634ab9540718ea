/- ScanBlanks in company: true, and the old memory stands. -/
import Derived.Test.YtlaipigilikmbaaBlPMa
set_option linter.unusedVariables false
namespace Go.Proofs.Ytlaipigilikmbaa.BlW
open Go Go.Conc Go.RowKit Go.Proofs Go.Proofs.Ytlaipigilikmbaa Go.Proofs.Ytlaipigilikmbaa.Co Go.Proofs.Ytlaipigilikmbaa.Cl Go.Proofs.Ytlaipigilikmbaa.Ph Go.Proofs.Ytlaipigilikmbaa.LwW
attribute [local irreducible] kC kE blk
noncomputable def oo (i j : Nat) : Oper := ((opsOf (kC i))[j]?).getD ⟨none, .move (.tmp 0), 0, "", #[], none⟩
theorem blF : Try.prog.funcs[5]? = some Try.f5 := Try.func5
theorem okb1 : okCodeB Try.prog (fun i => okL.contains i) (fun i => exL.contains i) (kC 1) = true := by decide +kernel
theorem ok1 (ro : Nat → Prop) : Co.OkCode Try.prog (EN ro) (kC 1) := en_code ro _ okb1
theorem okb3 : okCodeB Try.prog (fun i => okL.contains i) (fun i => exL.contains i) (kC 3) = true := by decide +kernel
theorem ok3 (ro : Nat → Prop) : Co.OkCode Try.prog (EN ro) (kC 3) := en_code ro _ okb3
theorem okb4 : okCodeB Try.prog (fun i => okL.contains i) (fun i => exL.contains i) (kC 4) = true := by decide +kernel
theorem ok4 (ro : Nat → Prop) : Co.OkCode Try.prog (EN ro) (kC 4) := en_code ro _ okb4
theorem okb6 : okCodeB Try.prog (fun i => okL.contains i) (fun i => exL.contains i) (kC 6) = true := by decide +kernel
theorem ok6 (ro : Nat → Prop) : Co.OkCode Try.prog (EN ro) (kC 6) := en_code ro _ okb6
theorem okb7 : okCodeB Try.prog (fun i => okL.contains i) (fun i => exL.contains i) (kC 7) = true := by decide +kernel
theorem ok7 (ro : Nat → Prop) : Co.OkCode Try.prog (EN ro) (kC 7) := en_code ro _ okb7
theorem okb9 : okCodeB Try.prog (fun i => okL.contains i) (fun i => exL.contains i) (kC 9) = true := by decide +kernel
theorem ok9 (ro : Nat → Prop) : Co.OkCode Try.prog (EN ro) (kC 9) := en_code ro _ okb9
theorem okb10 : okCodeB Try.prog (fun i => okL.contains i) (fun i => exL.contains i) (kC 10) = true := by decide +kernel
theorem ok10 (ro : Nat → Prop) : Co.OkCode Try.prog (EN ro) (kC 10) := en_code ro _ okb10
theorem okb11 : okCodeB Try.prog (fun i => okL.contains i) (fun i => exL.contains i) (kC 11) = true := by decide +kernel
theorem ok11 (ro : Nat → Prop) : Co.OkCode Try.prog (EN ro) (kC 11) := en_code ro _ okb11
theorem okb12 : okCodeB Try.prog (fun i => okL.contains i) (fun i => exL.contains i) (kC 12) = true := by decide +kernel
theorem ok12 (ro : Nat → Prop) : Co.OkCode Try.prog (EN ro) (kC 12) := en_code ro _ okb12
theorem okb14 : okCodeB Try.prog (fun i => okL.contains i) (fun i => exL.contains i) (kC 14) = true := by decide +kernel
theorem ok14 (ro : Nat → Prop) : Co.OkCode Try.prog (EN ro) (kC 14) := en_code ro _ okb14
theorem okb15 : okCodeB Try.prog (fun i => okL.contains i) (fun i => exL.contains i) (kC 15) = true := by decide +kernel
theorem ok15 (ro : Nat → Prop) : Co.OkCode Try.prog (EN ro) (kC 15) := en_code ro _ okb15
theorem okb16 : okCodeB Try.prog (fun i => okL.contains i) (fun i => exL.contains i) (kE 16) = true := by decide +kernel
theorem ok16 (ro : Nat → Prop) : Co.OkCode Try.prog (EN ro) (kE 16) := en_code ro _ okb16
theorem kr0 : kC 0 = .region 0 (opsOf (kC 0)) false := by kernel_rfl
theorem ks0 : (opsOf (kC 0)).size = 1 := by kernel_rfl
theorem ko0_0 : (opsOf (kC 0))[0]? = some (oo 0 0) := by kernel_rfl
theorem h0_0 : Hands (oo 0 0) 8 (.const (.bool false)) := ⟨by kernel_rfl, .inr (by kernel_rfl), by kernel_rfl⟩
theorem kr8 : kC 8 = .region 10 (opsOf (kC 8)) false := by kernel_rfl
theorem ks8 : (opsOf (kC 8)).size = 1 := by kernel_rfl
theorem ko8_0 : (opsOf (kC 8))[0]? = some (oo 8 0) := by kernel_rfl
theorem h8_0 : Hands (oo 8 0) 16 (.const (.slice none 0 0)) := ⟨by kernel_rfl, .inr (by kernel_rfl), by kernel_rfl⟩
theorem kr5 : kC 5 = .region 6 (opsOf (kC 5)) false := by kernel_rfl
theorem ks5 : (opsOf (kC 5)).size = 8 := by kernel_rfl
theorem ko5_0 : (opsOf (kC 5))[0]? = some (oo 5 0) := by kernel_rfl
theorem ko5_1 : (opsOf (kC 5))[1]? = some (oo 5 1) := by kernel_rfl
theorem ko5_2 : (opsOf (kC 5))[2]? = some (oo 5 2) := by kernel_rfl
theorem ko5_3 : (opsOf (kC 5))[3]? = some (oo 5 3) := by kernel_rfl
theorem ko5_4 : (opsOf (kC 5))[4]? = some (oo 5 4) := by kernel_rfl
theorem ko5_5 : (opsOf (kC 5))[5]? = some (oo 5 5) := by kernel_rfl
theorem ko5_6 : (opsOf (kC 5))[6]? = some (oo 5 6) := by kernel_rfl
theorem ko5_7 : (opsOf (kC 5))[7]? = some (oo 5 7) := by kernel_rfl
theorem h5_0 : Hands (oo 5 0) 47 (.tmp 12) := ⟨by kernel_rfl, .inl (by kernel_rfl), by kernel_rfl⟩
theorem h5_1 : (oo 5 1).op = .buildSlice 39 1 #[(0, .tmp 47)] ∧ (oo 5 1).guard = none ∧ (oo 5 1).dst = some 48 := ⟨by kernel_rfl, by kernel_rfl, by kernel_rfl⟩
theorem h5_1b : okOpB Try.prog (fun i => okL.contains i) (fun i => exL.contains i) (oo 5 1).op = true := by kernel_rfl
theorem h5_1k (ro : Nat → Prop) : Co.OkOp Try.prog (EN ro) (oo 5 1).op := okOp_of (E := EN ro) rfl (exL_ok ro) h5_1b
theorem h5_1r (A : Option Addr) (n c : Nat) (w : World) : (execOp (fun _ => .slice A n c) (oo 5 1)).run Try.prog w = .ok (.value (.slice (some ⟨w.heap.size, 0, none⟩) 1 1)) { w with heap := w.heap.push (.cells #[.slice A n c] 22 (0, 0)) } := by kernel_rfl
theorem h5_2 : CallsOf (oo 5 2) 14 49 (.tmp 48) (.const (.int .i64 1)) := ⟨by kernel_rfl, by kernel_rfl, fun t' w => by kernel_rfl, fun t' w => by kernel_rfl⟩
theorem h5_3 : Hands (oo 5 3) 46 (.tmp 49) := ⟨by kernel_rfl, .inl (by kernel_rfl), by kernel_rfl⟩
theorem h5_4 : Parts (oo 5 4) 50 46 0 := ⟨by kernel_rfl, by kernel_rfl, by kernel_rfl⟩
theorem h5_5 : Parts (oo 5 5) 51 46 1 := ⟨by kernel_rfl, by kernel_rfl, by kernel_rfl⟩
theorem h5_6 : Hands (oo 5 6) 13 (.tmp 50) := ⟨by kernel_rfl, .inr (by kernel_rfl), by kernel_rfl⟩
theorem h5_7 : Hands (oo 5 7) 14 (.tmp 51) := ⟨by kernel_rfl, .inr (by kernel_rfl), by kernel_rfl⟩
theorem kr2 : kC 2 = .region 2 (opsOf (kC 2)) false := by kernel_rfl
theorem ks2 : (opsOf (kC 2)).size = 8 := by kernel_rfl
theorem ko2_0 : (opsOf (kC 2))[0]? = some (oo 2 0) := by kernel_rfl
theorem ko2_1 : (opsOf (kC 2))[1]? = some (oo 2 1) := by kernel_rfl
theorem ko2_2 : (opsOf (kC 2))[2]? = some (oo 2 2) := by kernel_rfl
theorem ko2_3 : (opsOf (kC 2))[3]? = some (oo 2 3) := by kernel_rfl
theorem ko2_4 : (opsOf (kC 2))[4]? = some (oo 2 4) := by kernel_rfl
theorem ko2_5 : (opsOf (kC 2))[5]? = some (oo 2 5) := by kernel_rfl
theorem ko2_6 : (opsOf (kC 2))[6]? = some (oo 2 6) := by kernel_rfl
theorem ko2_7 : (opsOf (kC 2))[7]? = some (oo 2 7) := by kernel_rfl
theorem h2_0 : Hands (oo 2 0) 26 (.tmp 0) := ⟨by kernel_rfl, .inl (by kernel_rfl), by kernel_rfl⟩
theorem h2_1 : Hands (oo 2 1) 27 (.tmp 9) := ⟨by kernel_rfl, .inl (by kernel_rfl), by kernel_rfl⟩
theorem h2_2 : CallsOf (oo 2 2) 14 28 (.tmp 26) (.tmp 27) := ⟨by kernel_rfl, by kernel_rfl, fun t' w => by kernel_rfl, fun t' w => by kernel_rfl⟩
theorem h2_3 : Hands (oo 2 3) 25 (.tmp 28) := ⟨by kernel_rfl, .inl (by kernel_rfl), by kernel_rfl⟩
theorem h2_4 : Parts (oo 2 4) 29 25 0 := ⟨by kernel_rfl, by kernel_rfl, by kernel_rfl⟩
theorem h2_5 : Parts (oo 2 5) 30 25 1 := ⟨by kernel_rfl, by kernel_rfl, by kernel_rfl⟩
theorem h2_6 : Hands (oo 2 6) 10 (.tmp 29) := ⟨by kernel_rfl, .inr (by kernel_rfl), by kernel_rfl⟩
theorem h2_7 : Hands (oo 2 7) 11 (.tmp 30) := ⟨by kernel_rfl, .inr (by kernel_rfl), by kernel_rfl⟩
theorem kr13 : kC 13 = .region 18 (opsOf (kC 13)) false := by kernel_rfl
theorem ks13 : (opsOf (kC 13)).size = 8 := by kernel_rfl
theorem ko13_0 : (opsOf (kC 13))[0]? = some (oo 13 0) := by kernel_rfl
theorem ko13_1 : (opsOf (kC 13))[1]? = some (oo 13 1) := by kernel_rfl
theorem ko13_2 : (opsOf (kC 13))[2]? = some (oo 13 2) := by kernel_rfl
theorem ko13_3 : (opsOf (kC 13))[3]? = some (oo 13 3) := by kernel_rfl
theorem ko13_4 : (opsOf (kC 13))[4]? = some (oo 13 4) := by kernel_rfl
theorem ko13_5 : (opsOf (kC 13))[5]? = some (oo 13 5) := by kernel_rfl
theorem ko13_6 : (opsOf (kC 13))[6]? = some (oo 13 6) := by kernel_rfl
theorem ko13_7 : (opsOf (kC 13))[7]? = some (oo 13 7) := by kernel_rfl
theorem h13_0 : Hands (oo 13 0) 93 (.tmp 18) := ⟨by kernel_rfl, .inl (by kernel_rfl), by kernel_rfl⟩
theorem h13_1 : Hands (oo 13 1) 94 (.tmp 9) := ⟨by kernel_rfl, .inl (by kernel_rfl), by kernel_rfl⟩
theorem h13_2 : CallsOf (oo 13 2) 14 95 (.tmp 93) (.tmp 94) := ⟨by kernel_rfl, by kernel_rfl, fun t' w => by kernel_rfl, fun t' w => by kernel_rfl⟩
theorem h13_3 : Hands (oo 13 3) 92 (.tmp 95) := ⟨by kernel_rfl, .inl (by kernel_rfl), by kernel_rfl⟩
theorem h13_4 : Parts (oo 13 4) 96 92 0 := ⟨by kernel_rfl, by kernel_rfl, by kernel_rfl⟩
theorem h13_5 : Parts (oo 13 5) 97 92 1 := ⟨by kernel_rfl, by kernel_rfl, by kernel_rfl⟩
theorem h13_6 : Hands (oo 13 6) 19 (.tmp 96) := ⟨by kernel_rfl, .inr (by kernel_rfl), by kernel_rfl⟩
theorem h13_7 : Hands (oo 13 7) 11 (.tmp 97) := ⟨by kernel_rfl, .inr (by kernel_rfl), by kernel_rfl⟩
theorem lat {t t' : Array Value} {S : List Nat} {d1 d2 : Nat} {a b v : Value} (h : Cl.Left t t' S d1 d2 a b) {s : Nat} (hs : s ∉ S) (hv : t[s]? = some v) : t'[s]? = some v := by rw [h.keep s hs]; exact hv
theorem kat {N : Nat} {S : List Nat} {t t' : Array Value} (h : Kp N S (fun i => t.getD i undef) t') {s : Nat} {v : Value} (hs : s ∈ S) (hv : t[s]? = some v) : t'[s]? = some v := by rw [h.2 s hs]; exact congrArg some (getD_of hv)
noncomputable abbrev EE (W : World) : Env := ⟨fun i => okL.contains i, told W, Try.prog.globals.size⟩
abbrev K0 (W : World) : Nat → Prop := fun x => x < W.heap.size
section
variable {Q : Value → World → Prop} {W : World} {A : Option Addr} {L cp nw : Nat} {pg : Nat → List UInt8} {Z : Nat → Prop} {t : Array Value} {w : World}
/-- The end. -/
theorem bl_end (hq : ∀ w, (∀ x, x < W.heap.size → w.heap[x]? = W.heap[x]?) → (∀ x, x < W.heap.size → x < w.heap.size) → w.os = W.os ∧ w.output = W.output → Q (.bool true) w) {todo : List Item} (h : RX 131 8 (.bool true) t w.heap) : WinsR Try.prog Q (EE W) (K0 W) W Z [] 5 t todo .returning w :=
  winsR_end blF (by kernel_rfl) (fun τ d => (results_tmp rfl _ _ _).trans (by rw [Array.getD_eq_getD_getElem?, h.2]; rfl)) hq
/-- From the pages with one more between on. -/
theorem bl4 (hS : Sound Try.prog (EE W)) (hl : LawOk (EE W) (K0 W) W) (HKZ : ∀ x, x < W.heap.size → ¬ Z x) (hq : ∀ w, (∀ x, x < W.heap.size → w.heap[x]? = W.heap[x]?) → (∀ x, x < W.heap.size → x < w.heap.size) → w.os = W.os ∧ w.output = W.output → Q (.bool true) w) {w1 : World} {l : List Fnd} {D D18 : Option Addr} {cap n c k m B : Nat} {P : List Value} {vb : Value} {base : Nat}
    (hN : NewI pg L l) (hL : L < 4096) (hk : k ≤ L) (ho : w.ownsRow base 44 4 (.slice D l.length cap) l.length (flatF (fun i => l.getD i zFnd) l.length))
    (hn : n = L + 1) (ho18 : w.ownsRow B 22 1 (.slice D18 n c) n (P.take k ++ [vb] ++ P.drop k)) (hP : P.length = L) (hpg : ∀ j v, P[j]? = some v → PgAt w v (pg j)) (hvb : PgAt w vb (blk m))
    (hw1 : 1 ≤ nw) (hw2 : nw ≤ 8) (HT : t.size = 131) (b9 : t[9]? = some (.int .i64 nw)) (b10 : t[10]? = some (.slice D l.length cap)) (b15 : t[15]? = some (.int .i64 k)) (b18 : t[18]? = some (.slice D18 n c)) : WinsR Try.prog Q (EE W) (K0 W) W Z [] 5 t [.code (kE 13)] .run w := by
  subst hn
  rw [kE13]
  refine winsR_seq ?_
  rw [kr13]
  refine winsR_newest8 hS hl HKZ (id := 18) (ops := opsOf (kC 13)) (p := 18) (q := 9) (s1 := 93) (s2 := 94) (s3 := 95) (s4 := 92) (e1 := 96) (e2 := 97) (d1 := 19) (d2 := 11) ks13 ko13_0 ko13_1 ko13_2 ko13_3 ko13_4 ko13_5 ko13_6 ko13_7 h13_0 h13_1 h13_2 h13_3 h13_4 h13_5 h13_6 h13_7 (by decide) (by decide) (by decide) (by rw [HT]; decide) (by rw [HT]; decide) b18 b9 hw1 hw2 (more_args ho18 hP hk hpg hvb) ?_ fun t' h => absurd h (by omega)
  intro Z1 l2 D2 cap2 u1 t1 _ hN2 HKZ1 hb1 ho1 hl1
  obtain rfl := blank_law hk hN hN2
  replace hb1 : HB w.heap u1.heap := .of hb1
  have HT1 := hl1.size.trans HT
  have hlen : (l.map (bump k)).length = l.length := List.length_map _
  rw [hlen] at hl1
  rw [hlen] at ho1
  rw [kE14]
  refine winsR_seq ?_
  refine lwp hS (R := R7 [15] 10 (.slice D l.length cap) 19 (.slice D2 l.length cap2) u1 fun i => t1.getD i undef) ⟨_, blF⟩ (ok14 _) (fun τ d => p14' (Co.re u1 τ d) D D2 l.length cap cap2 t1 HT1 (lat hl1 (by decide) b10) hl1.two hl1.one) fun t2 u2 h2 => ?_
  obtain ⟨k2, e2, k10, k19⟩ := h2
  have hb2 : HB u1.heap u2.heap := by rw [e2]; exact HB.refl _
  rw [kE15]
  refine winsR_seq ?_
  have hpb : ∀ i, i < l.length → (l.getD i zFnd) ∈ l := fun i hi => by
    rw [List.getD_eq_getElem?_getD, List.getElem?_eq_getElem hi]
    exact List.getElem_mem hi
  have hmap : ∀ i, i < l.length → (l.map (bump k)).getD i zFnd = bump k (l.getD i zFnd) := fun i hi => by
    simp only [List.getD_eq_getElem?_getD, List.getElem?_map, List.getElem?_eq_getElem hi]
    rfl
  have hlmax : l.length ≤ 9223372036854775807 := by
    rcases ho.2 with ⟨-, h0⟩ | ⟨_, _, _, -, -, -, h1, h2, -⟩
    · omega
    · simp only [maxLen] at h2
      omega
  refine lwp hS (R := fun t' _ => Kp 131 [] (fun i => t2.getD i undef) t') ⟨_, blF⟩ (ok15 _) (fun τ d => p15' (Co.re u2 τ d) D D2 l.length cap cap2 k (fun i => (l.getD i zFnd).lba) (fun i => (l.getD i zFnd).page) (fun i => (l.getD i zFnd).seq) (fun i => (l.getD i zFnd).kind) (fun i => ((l.map (bump k)).getD i zFnd).page) (rdF_own (hb2.own (hb1.own ho))) (RdF.congr (rdF_own (hb2.own ho1)) fun i hi => ?_) (fun i hi => ?_) hlmax t2 k2.1 k10 (kat k2 (by decide) (lat hl1 (by decide) b15)) k19) fun t3 u3 h3 => ?_
  · rw [hmap i hi]
    exact ⟨rfl, rfl, rfl, rfl⟩
  · obtain ⟨j, hj, -, he⟩ := hN.is_ _ (hpb i hi)
    rw [hmap i hi]
    have : (l.getD i zFnd).page = (j : Int) := by rw [he]; rfl
    refine ⟨by omega, by omega, rfl⟩
  · exact lret hS (R := RX 131 8 (.bool true)) ⟨_, blF⟩ (ok16 _) (fun τ d => p16' (Co.re u3 τ d) t3 h3.1) fun t4 u4 todo h4 => bl_end hq h4
/-- From the packing on. -/
theorem bl2 (hS : Sound Try.prog (EE W)) (hl : LawOk (EE W) (K0 W) W) (HKZ : ∀ x, x < W.heap.size → ¬ Z x) (hq : ∀ w, (∀ x, x < W.heap.size → w.heap[x]? = W.heap[x]?) → (∀ x, x < W.heap.size → x < w.heap.size) → w.os = W.os ∧ w.output = W.output → Q (.bool true) w) {l : List Fnd} {D : Option Addr} {cap base : Nat} {x y : Int} (hx1 : -9223372036854775808 ≤ x) (hx2 : x ≤ 9223372036854775807) (hy1 : -9223372036854775808 ≤ y) (hy2 : y ≤ 9223372036854775807)
    (hN : NewI pg L l) (hL : L < 4096) (ho : w.ownsRow base 44 4 (.slice D l.length cap) l.length (flatF (fun i => l.getD i zFnd) l.length)) (hA : LArgs w A L pg) (hLc : L ≤ cp) (hcp : cp ≤ maxLen)
    (hw1 : 1 ≤ nw) (hw2 : nw ≤ 8) (HT : t.size = 131) (b0 : t[0]? = some (.slice A L cp)) (b1 : t[1]? = some (.int .i64 x)) (b2 : t[2]? = some (.int .i64 y)) (b9 : t[9]? = some (.int .i64 nw)) (b10 : t[10]? = some (.slice D l.length cap)) : WinsR Try.prog Q (EE W) (K0 W) W Z [] 5 t [.code (kE 4)] .run w := by
  have hcp' : cp ≤ 9223372036854775807 := by simp only [maxLen] at hcp; omega
  rw [kE4]
  refine winsR_seq ?_
  refine lwp hS (R := R5 w fun i => t.getD i undef) ⟨_, blF⟩ (ok4 _) (fun τ d => p4' (Co.re w τ d) t HT) fun t2 u2 h2 => ?_
  obtain ⟨k2, k11, hb2, Dp, c, k12, ho2⟩ := h2
  clear HT
  have HT := k2.1
  rw [kE5]
  refine winsR_seq ?_
  rw [kr5]
  refine winsR_newest1 hS hl HKZ (id := 6) (ops := opsOf (kC 5)) (p := 12) (s1 := 47) (s2 := 48) (s3 := 49) (s4 := 46) (e1 := 50) (e2 := 51) (d1 := 13) (d2 := 14) ks5 ko5_0 ko5_1 ko5_2 ko5_3 ko5_4 ko5_5 ko5_6 ko5_7 h5_0 h5_1 (h5_1k _) h5_1r h5_2 h5_3 h5_4 h5_5 h5_6 h5_7 (by decide) (by rw [HT]; decide) (by rw [HT]; decide) k12 (pg_own (own_of_hW ho2) (by omega)) fun Z1 l1 D1 cap1 u3 t3 hN1 HKZ1 hb3 ho3 hl3 => ?_
  obtain rfl := pk_found hN1
  replace hb3 : HB u2.heap u3.heap := .of hb3
  have HT3 := hl3.size.trans HT
  rw [kE6]
  refine winsR_seq ?_
  refine lwp hS (R := RK 131 [0, 1, 2, 9, 10] u3 fun i => t3.getD i undef) ⟨_, blF⟩ (ok6 _) (fun τ d => p6' (Co.re u3 τ d) D1 cap1 t3 HT3 (lat hl3 (by decide) k11) hl3.one hl3.two) fun t4 u4 h4 => ?_
  obtain ⟨k4, e4⟩ := h4
  have c0 := kat k4 (s := 0) (by decide) (lat hl3 (by decide) (kat k2 (by decide) b0))
  have c1 := kat k4 (s := 1) (by decide) (lat hl3 (by decide) (kat k2 (by decide) b1))
  have c2 := kat k4 (s := 2) (by decide) (lat hl3 (by decide) (kat k2 (by decide) b2))
  have c9 := kat k4 (s := 9) (by decide) (lat hl3 (by decide) (kat k2 (by decide) b9))
  have c10 := kat k4 (s := 10) (by decide) (lat hl3 (by decide) (kat k2 (by decide) b10))
  have hb4 : HB w.heap u4.heap := by rw [e4]; exact hb2.trans hb3
  obtain ⟨k, hkk⟩ : ∃ k, k = pickN x (L + 1) := ⟨_, rfl⟩
  have hkL : k ≤ L := by have := pickN_lt x (L + 1) (by omega); omega
  rw [kE7]
  refine winsR_seq ?_
  refine lwp hS (R := R7 [2, 9, 10] 15 (.int .i64 ((pickN x (L + 1) : Nat) : Int)) 0 (.slice A L cp) u4 fun i => t4.getD i undef) ⟨_, blF⟩ (ok7 _) (fun τ d => p7' (Co.re u4 τ d) A L cp x hx1 hx2 hL t4 k4.1 c0 c1) fun t5 u5 h5 => ?_
  obtain ⟨k5, e5, k15, k0⟩ := h5
  rw [← hkk] at k15
  have d2 := kat k5 (s := 2) (by decide) c2
  have d9 := kat k5 (s := 9) (by decide) c9
  have d10 := kat k5 (s := 10) (by decide) c10
  rw [kE8]
  refine winsR_seq ?_
  rw [kr8]
  refine winsR_reg ?_
  rw [ks8, show List.range 1 = [0] from rfl]
  refine winsR_move hS (v := .slice none 0 0) (d := 16) (x := .const (.slice none 0 0)) ko8_0 h8_0.1 h8_0.2.1 h8_0.2.2 (fun ok f => .sliceN _ _) rfl (winsR_inDone ?_)
  have HT6 : (t5.setIfInBounds 16 (.slice none 0 0)).size = 131 := by simpa using k5.1
  have f16 : (t5.setIfInBounds 16 (.slice none 0 0))[16]? = some (.slice none 0 0) := set_same (by rw [k5.1]; decide)
  have f0 : (t5.setIfInBounds 16 (.slice none 0 0))[0]? = _ := (set_ne (by decide)).trans k0
  have f2 : (t5.setIfInBounds 16 (.slice none 0 0))[2]? = _ := (set_ne (by decide)).trans d2
  have f9 : (t5.setIfInBounds 16 (.slice none 0 0))[9]? = _ := (set_ne (by decide)).trans d9
  have f10 : (t5.setIfInBounds 16 (.slice none 0 0))[10]? = _ := (set_ne (by decide)).trans d10
  have f15 : (t5.setIfInBounds 16 (.slice none 0 0))[15]? = _ := (set_ne (by decide)).trans k15
  generalize t5.setIfInBounds 16 (.slice none 0 0) = t6 at HT6 f16 f0 f2 f9 f10 f15 ⊢
  rw [kE9]
  refine winsR_seq ?_
  refine lwp hS (R := RO [0, 9, 10, 15] 16 5 (1 + pickN y 60) (u8v (blk (1 + pickN y 60))) u5 fun i => t6.getD i undef) ⟨_, blF⟩ (ok9 _) (fun τ d => p9' (Co.re u5 τ d) y hy1 hy2 t6 HT6 f2 f16) fun t7 u7 h7 => ?_
  obtain ⟨k7, hb7, Db, cb, g16, hcb, hob⟩ := h7
  have g0 := kat k7 (s := 0) (by decide) f0
  have g9 := kat k7 (s := 9) (by decide) f9
  have g10 := kat k7 (s := 10) (by decide) f10
  have g15 := kat k7 (s := 15) (by decide) f15
  have hw7 : HB w.heap u7.heap := by rw [← e5] at hb4; exact hb4.trans hb7
  have hvb := pg_own (own_of_hW hob) (by omega)
  obtain ⟨P, hP, hPr, hPg, hP1⟩ := pages_list (hw7.args hA)
  rw [kE10]
  refine winsR_seq ?_
  refine lwp hS (R := RBV u7.heap.size [9, 10, 16] k (P.take k) 0 (.slice A L cp) 15 (.int .i64 k) u7 fun i => t7.getD i undef) ⟨_, blF⟩ (ok10 _) (fun τ d => p10' (Co.re u7 τ d) A L cp k P hP hPr hkL hL hLc hcp' hP1 t7 k7.1 g0 g15) fun t8 u8 h8 => ?_
  obtain ⟨⟨k8, s8, e8, D8, c8, i18, hc8, ho8⟩, i0, i15⟩ := h8
  have i9 := kat k8 (s := 9) (by decide) g9
  have i10 := kat k8 (s := 10) (by decide) g10
  have i16 := kat k8 (s := 16) (by decide) g16
  rw [kE11]
  refine winsR_seq ?_
  refine lwp hS (R := RB u7.heap.size [0, 9, 10, 15] (k + 1) (P.take k ++ [.slice Db (1 + pickN y 60) cb]) u8 fun i => t8.getD i undef) ⟨_, blF⟩ (ok11 _) (fun τ d => p11' (Co.re u8 τ d) u7.heap.size D8 Db k c8 _ cb _ s8 (own_of_hW ho8) (by omega) t8 k8.1 i16 i18) fun t9 u9 h9 => ?_
  obtain ⟨k9, s9, e9, D9, c9', j18, hc9, ho9⟩ := h9
  have j0 := kat k9 (s := 0) (by decide) i0
  have j9 := kat k9 (s := 9) (by decide) i9
  have j10 := kat k9 (s := 10) (by decide) i10
  have j15 := kat k9 (s := 15) (by decide) i15
  have hb9 : HB u7.heap u9.heap := ⟨Nat.le_trans s8 s9, fun i hi => (e9 i hi).trans (e8 i hi)⟩
  rw [kE12]
  refine winsR_seq ?_
  refine lwp hS (R := RBV u7.heap.size [9, 10] (k + 1 + (L - k)) (P.take k ++ [.slice Db (1 + pickN y 60) cb] ++ P.drop k) 15 (.int .i64 k) 15 (.int .i64 k) u9 fun i => t9.getD i undef) ⟨_, blF⟩ (ok12 _) (fun τ d => p12' (Co.re u9 τ d) u7.heap.size D9 A (k + 1) c9' L cp k _ P hb9.1 (own_of_hW ho9) (by omega) hP (hb9.rd hPr) hkL hL hLc hcp' hP1 t9 k9.1 j0 j15 j18) fun t10 u10 h10 => ?_
  obtain ⟨⟨k10, s10, e10, D10, c10', l18, hc10, ho10⟩, l15, -⟩ := h10
  have l9 := kat k10 (s := 9) (by decide) j9
  have l10 := kat k10 (s := 10) (by decide) j10
  have hb10 : HB u7.heap u10.heap := ⟨Nat.le_trans hb9.1 s10, fun i hi => (e10 i hi).trans (hb9.2 i hi)⟩
  exact bl4 (w1 := w) hS hl HKZ1 hq hN hL hkL (hb10.own (hw7.own ho)) (by omega) (own_of_hW ho10) hP (fun j v hj => hb10.pg (hPg j v hj)) (hb10.pg hvb) hw1 hw2 k10.1 l9 l10 l15 l18
/-- The law, from its beginning. -/
theorem bl1 (hS : Sound Try.prog (EE W)) (hl : LawOk (EE W) (K0 W) W) (HKZ : ∀ x, x < W.heap.size → ¬ Z x) (hq : ∀ w, (∀ x, x < W.heap.size → w.heap[x]? = W.heap[x]?) → (∀ x, x < W.heap.size → x < w.heap.size) → w.os = W.os ∧ w.output = W.output → Q (.bool true) w) {x y z : Int} (hx1 : -9223372036854775808 ≤ x) (hx2 : x ≤ 9223372036854775807) (hy1 : -9223372036854775808 ≤ y) (hy2 : y ≤ 9223372036854775807) (hz1 : -9223372036854775808 ≤ z) (hz2 : z ≤ 9223372036854775807)
    (hA : LArgs w A L pg) (hLc : L ≤ cp) (hcp : cp ≤ maxLen) (HT : t.size = 131) (b0 : t[0]? = some (.slice A L cp)) (b1 : t[1]? = some (.int .i64 x)) (b2 : t[2]? = some (.int .i64 y)) (b3 : t[3]? = some (.int .i64 z)) : WinsR Try.prog Q (EE W) (K0 W) W Z [] 5 t [.code (kE 0)] .run w := by
  rw [kE0]
  refine winsR_seq ?_
  rw [kr0]
  refine winsR_reg ?_
  rw [ks0, show List.range 1 = [0] from rfl]
  refine winsR_move hS (v := .bool false) (d := 8) (x := .const (.bool false)) ko0_0 h0_0.1 h0_0.2.1 h0_0.2.2 (fun ok f => .bool _) rfl (winsR_inDone ?_)
  have HT1 : (t.setIfInBounds 8 (.bool false)).size = 131 := by simpa using HT
  have c0 : (t.setIfInBounds 8 (.bool false))[0]? = _ := (set_ne (by decide)).trans b0
  have c1 : (t.setIfInBounds 8 (.bool false))[1]? = _ := (set_ne (by decide)).trans b1
  have c2 : (t.setIfInBounds 8 (.bool false))[2]? = _ := (set_ne (by decide)).trans b2
  have c3 : (t.setIfInBounds 8 (.bool false))[3]? = _ := (set_ne (by decide)).trans b3
  generalize t.setIfInBounds 8 (.bool false) = t1 at HT1 c0 c1 c2 c3 ⊢
  clear b0 b1 b2 b3 HT
  rw [kE1]
  refine winsR_seq ?_
  refine lwp hS (R := RV 131 [0, 1, 2] 9 (.int .i64 (1 + ((pickN z 8 : Nat) : Int))) w fun i => t1.getD i undef) ⟨_, blF⟩ (ok1 _) (fun τ d => p1' (Co.re w τ d) z hz1 hz2 t1 HT1 c3) fun t2 u2 h2 => ?_
  obtain ⟨k2, e2, k9⟩ := h2
  have pz := pickN_lt z 8 (by omega)
  have d0 := kat k2 (s := 0) (by decide) c0
  have d1 := kat k2 (s := 1) (by decide) c1
  have d2 := kat k2 (s := 2) (by decide) c2
  have d9 : t2[9]? = some (.int .i64 ((1 + pickN z 8 : Nat) : Int)) := k9.trans (by rw [Int.natCast_add]; rfl)
  have hA2 : LArgs u2 A L pg := HB.args (by rw [e2]; exact HB.refl _) hA
  have HT := k2.1
  rw [kE2]
  refine winsR_seq ?_
  rw [kr2]
  refine winsR_newest8 hS hl HKZ (id := 2) (ops := opsOf (kC 2)) (p := 0) (q := 9) (s1 := 26) (s2 := 27) (s3 := 28) (s4 := 25) (e1 := 29) (e2 := 30) (d1 := 10) (d2 := 11) ks2 ko2_0 ko2_1 ko2_2 ko2_3 ko2_4 ko2_5 ko2_6 ko2_7 h2_0 h2_1 h2_2 h2_3 h2_4 h2_5 h2_6 h2_7 (by decide) (by decide) (by decide) (by rw [HT]; decide) (by rw [HT]; decide) d0 d9 (by omega) (by omega) hA2 ?_ ?_
  · intro Z1 l D cap u3 t3 hL hN HKZ1 hb3 ho3 hl3
    replace hb3 : HB u2.heap u3.heap := .of hb3
    have HT3 := hl3.size.trans HT
    rw [kE3]
    refine winsR_seq ?_
    rcases Nat.lt_or_ge L 4096 with h | h
    · refine lwp hS (R := RV 131 [1, 2, 9, 10] 0 (.slice A L cp) u3 fun i => t3.getD i undef) ⟨_, blF⟩ (ok3 _) (fun τ d => p3n' (Co.re u3 τ d) A L cp h t3 HT3 (lat hl3 (by decide) d0) hl3.two) fun t4 u4 h4 => ?_
      obtain ⟨k4, e4, k0⟩ := h4
      have hb4 : HB u3.heap u4.heap := by rw [e4]; exact HB.refl _
      exact bl2 hS hl HKZ1 hq hx1 hx2 hy1 hy2 hN h (hb4.own ho3) ((hb3.trans hb4).args hA2) hLc hcp (by omega) (by omega) k4.1 k0 (kat k4 (by decide) (lat hl3 (by decide) d1)) (kat k4 (by decide) (lat hl3 (by decide) d2)) (kat k4 (by decide) (lat hl3 (by decide) d9)) (kat k4 (by decide) hl3.one)
    · exact lret hS (R := RX 131 8 (.bool true)) ⟨_, blF⟩ (ok3 _) (fun τ d => p3e' (Co.re u3 τ d) A L cp (by omega) t3 HT3 (lat hl3 (by decide) d0) hl3.two) fun t4 u4 todo h4 => bl_end hq h4
  · intro t3 hL hl3
    have HT3 := hl3.size.trans HT
    rw [kE3]
    refine winsR_seq ?_
    exact lret hS (R := RX 131 8 (.bool true)) ⟨_, blF⟩ (ok3 _) (fun τ d => p3f' (Co.re u2 τ d) A L cp _ _ hL t3 HT3 (lat hl3 (by decide) d0) hl3.two) fun t4 u4 todo h4 => bl_end hq h4
end
end Go.Proofs.Ytlaipigilikmbaa.BlW
