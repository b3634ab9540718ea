/- ScanJoins in company: true, and the old memory stands. -/
import Derived.Test.YtlaipigilikmbaaJoPMa
set_option linter.unusedVariables false
namespace Go.Proofs.Ytlaipigilikmbaa.JoW
open Go Go.Conc Go.RowKit Go.Proofs Go.Proofs.Ytlaipigilikmbaa Go.Proofs.Ytlaipigilikmbaa.Co Go.Proofs.Ytlaipigilikmbaa.Cl Go.Proofs.Ytlaipigilikmbaa.Ph Go.Proofs.Ytlaipigilikmbaa.LwW
attribute [local irreducible] kC kE
noncomputable def oo (i j : Nat) : Oper := ((opsOf (kC i))[j]?).getD ⟨none, .move (.tmp 0), 0, "", #[], none⟩
theorem blF : Try.prog.funcs[4]? = some Try.f4 := Try.func4
theorem ok1 (ro : Nat → Prop) : Co.OkCode Try.prog (EN ro) (kC 1) := en_code ro _ (by decide +kernel)
theorem ok3 (ro : Nat → Prop) : Co.OkCode Try.prog (EN ro) (kC 3) := en_code ro _ (by decide +kernel)
theorem ok4 (ro : Nat → Prop) : Co.OkCode Try.prog (EN ro) (kC 4) := en_code ro _ (by decide +kernel)
theorem ok5 (ro : Nat → Prop) : Co.OkCode Try.prog (EN ro) (kC 5) := en_code ro _ (by decide +kernel)
theorem ok6 (ro : Nat → Prop) : Co.OkCode Try.prog (EN ro) (kC 6) := en_code ro _ (by decide +kernel)
theorem ok8 (ro : Nat → Prop) : Co.OkCode Try.prog (EN ro) (kC 8) := en_code ro _ (by decide +kernel)
theorem ok11 (ro : Nat → Prop) : Co.OkCode Try.prog (EN ro) (kC 11) := en_code ro _ (by decide +kernel)
theorem ok12 (ro : Nat → Prop) : Co.OkCode Try.prog (EN ro) (kC 12) := en_code ro _ (by decide +kernel)
theorem ok15 (ro : Nat → Prop) : Co.OkCode Try.prog (EN ro) (kC 15) := en_code ro _ (by decide +kernel)
theorem ok16 (ro : Nat → Prop) : Co.OkCode Try.prog (EN ro) (kE 16) := en_code ro _ (by decide +kernel)
theorem kr0 : kC 0 = .region 0 (opsOf (kC 0)) false := by kernel_rfl
theorem ks0 : (opsOf (kC 0)).size = 1 := by kernel_rfl
theorem ko0_0 : (opsOf (kC 0))[0]? = some (oo 0 0) := by kernel_rfl
theorem h0_0 : Hands (oo 0 0) 6 (.const (.bool false)) := ⟨by kernel_rfl, .inr (by kernel_rfl), by kernel_rfl⟩
theorem kr13 : kC 13 = .region 19 (opsOf (kC 13)) false := by kernel_rfl
theorem ks13 : (opsOf (kC 13)).size = 1 := by kernel_rfl
theorem ko13_0 : (opsOf (kC 13))[0]? = some (oo 13 0) := by kernel_rfl
theorem h13_0 : Hands (oo 13 0) 17 (.const (.int .i64 0)) := ⟨by kernel_rfl, .inr (by kernel_rfl), by kernel_rfl⟩
theorem kr14 : kC 14 = .region 20 (opsOf (kC 14)) false := by kernel_rfl
theorem ks14 : (opsOf (kC 14)).size = 1 := by kernel_rfl
theorem ko14_0 : (opsOf (kC 14))[0]? = some (oo 14 0) := by kernel_rfl
theorem h14_0 : Hands (oo 14 0) 18 (.const (.int .i64 0)) := ⟨by kernel_rfl, .inr (by kernel_rfl), by kernel_rfl⟩
theorem kr2 : kC 2 = .region 2 (opsOf (kC 2)) false := by kernel_rfl
theorem ks2 : (opsOf (kC 2)).size = 8 := by kernel_rfl
theorem ko2_0 : (opsOf (kC 2))[0]? = some (oo 2 0) := by kernel_rfl
theorem ko2_1 : (opsOf (kC 2))[1]? = some (oo 2 1) := by kernel_rfl
theorem ko2_2 : (opsOf (kC 2))[2]? = some (oo 2 2) := by kernel_rfl
theorem ko2_3 : (opsOf (kC 2))[3]? = some (oo 2 3) := by kernel_rfl
theorem ko2_4 : (opsOf (kC 2))[4]? = some (oo 2 4) := by kernel_rfl
theorem ko2_5 : (opsOf (kC 2))[5]? = some (oo 2 5) := by kernel_rfl
theorem ko2_6 : (opsOf (kC 2))[6]? = some (oo 2 6) := by kernel_rfl
theorem ko2_7 : (opsOf (kC 2))[7]? = some (oo 2 7) := by kernel_rfl
theorem h2_0 : Hands (oo 2 0) 29 (.tmp 7) := ⟨by kernel_rfl, .inl (by kernel_rfl), by kernel_rfl⟩
theorem h2_1 : (oo 2 1).op = .buildSlice 39 1 #[(0, .tmp 29)] ∧ (oo 2 1).guard = none ∧ (oo 2 1).dst = some 30 := ⟨by kernel_rfl, by kernel_rfl, by kernel_rfl⟩
theorem h2_1b : okOpB Try.prog (fun i => okL.contains i) (fun i => exL.contains i) (oo 2 1).op = true := by kernel_rfl
theorem h2_1k (ro : Nat → Prop) : Co.OkOp Try.prog (EN ro) (oo 2 1).op := okOp_of (E := EN ro) rfl (exL_ok ro) h2_1b
theorem h2_1r (A : Option Addr) (n c : Nat) (w : World) : (execOp (fun _ => .slice A n c) (oo 2 1)).run Try.prog w = .ok (.value (.slice (some ⟨w.heap.size, 0, none⟩) 1 1)) { w with heap := w.heap.push (.cells #[.slice A n c] 22 (0, 0)) } := by kernel_rfl
theorem h2_2 : CallsOf (oo 2 2) 14 31 (.tmp 30) (.const (.int .i64 1)) := ⟨by kernel_rfl, by kernel_rfl, fun t' w => by kernel_rfl, fun t' w => by kernel_rfl⟩
theorem h2_3 : Hands (oo 2 3) 28 (.tmp 31) := ⟨by kernel_rfl, .inl (by kernel_rfl), by kernel_rfl⟩
theorem h2_4 : Parts (oo 2 4) 32 28 0 := ⟨by kernel_rfl, by kernel_rfl, by kernel_rfl⟩
theorem h2_5 : Parts (oo 2 5) 33 28 1 := ⟨by kernel_rfl, by kernel_rfl, by kernel_rfl⟩
theorem h2_6 : Hands (oo 2 6) 9 (.tmp 32) := ⟨by kernel_rfl, .inr (by kernel_rfl), by kernel_rfl⟩
theorem h2_7 : Hands (oo 2 7) 10 (.tmp 33) := ⟨by kernel_rfl, .inr (by kernel_rfl), by kernel_rfl⟩
theorem kr7 : kC 7 = .region 8 (opsOf (kC 7)) false := by kernel_rfl
theorem ks7 : (opsOf (kC 7)).size = 8 := by kernel_rfl
theorem ko7_0 : (opsOf (kC 7))[0]? = some (oo 7 0) := by kernel_rfl
theorem ko7_1 : (opsOf (kC 7))[1]? = some (oo 7 1) := by kernel_rfl
theorem ko7_2 : (opsOf (kC 7))[2]? = some (oo 7 2) := by kernel_rfl
theorem ko7_3 : (opsOf (kC 7))[3]? = some (oo 7 3) := by kernel_rfl
theorem ko7_4 : (opsOf (kC 7))[4]? = some (oo 7 4) := by kernel_rfl
theorem ko7_5 : (opsOf (kC 7))[5]? = some (oo 7 5) := by kernel_rfl
theorem ko7_6 : (opsOf (kC 7))[6]? = some (oo 7 6) := by kernel_rfl
theorem ko7_7 : (opsOf (kC 7))[7]? = some (oo 7 7) := by kernel_rfl
theorem h7_0 : Hands (oo 7 0) 62 (.tmp 12) := ⟨by kernel_rfl, .inl (by kernel_rfl), by kernel_rfl⟩
theorem h7_1 : Hands (oo 7 1) 63 (.tmp 11) := ⟨by kernel_rfl, .inl (by kernel_rfl), by kernel_rfl⟩
theorem h7_2 : CallsOf (oo 7 2) 14 64 (.tmp 62) (.tmp 63) := ⟨by kernel_rfl, by kernel_rfl, fun t' w => by kernel_rfl, fun t' w => by kernel_rfl⟩
theorem h7_3 : Hands (oo 7 3) 61 (.tmp 64) := ⟨by kernel_rfl, .inl (by kernel_rfl), by kernel_rfl⟩
theorem h7_4 : Parts (oo 7 4) 65 61 0 := ⟨by kernel_rfl, by kernel_rfl, by kernel_rfl⟩
theorem h7_5 : Parts (oo 7 5) 66 61 1 := ⟨by kernel_rfl, by kernel_rfl, by kernel_rfl⟩
theorem h7_6 : Hands (oo 7 6) 13 (.tmp 65) := ⟨by kernel_rfl, .inr (by kernel_rfl), by kernel_rfl⟩
theorem h7_7 : Hands (oo 7 7) 8 (.tmp 66) := ⟨by kernel_rfl, .inr (by kernel_rfl), by kernel_rfl⟩
theorem kr9 : kC 9 = .region 11 (opsOf (kC 9)) false := by kernel_rfl
theorem ks9 : (opsOf (kC 9)).size = 8 := by kernel_rfl
theorem ko9_0 : (opsOf (kC 9))[0]? = some (oo 9 0) := by kernel_rfl
theorem ko9_1 : (opsOf (kC 9))[1]? = some (oo 9 1) := by kernel_rfl
theorem ko9_2 : (opsOf (kC 9))[2]? = some (oo 9 2) := by kernel_rfl
theorem ko9_3 : (opsOf (kC 9))[3]? = some (oo 9 3) := by kernel_rfl
theorem ko9_4 : (opsOf (kC 9))[4]? = some (oo 9 4) := by kernel_rfl
theorem ko9_5 : (opsOf (kC 9))[5]? = some (oo 9 5) := by kernel_rfl
theorem ko9_6 : (opsOf (kC 9))[6]? = some (oo 9 6) := by kernel_rfl
theorem ko9_7 : (opsOf (kC 9))[7]? = some (oo 9 7) := by kernel_rfl
theorem h9_0 : Hands (oo 9 0) 73 (.tmp 0) := ⟨by kernel_rfl, .inl (by kernel_rfl), by kernel_rfl⟩
theorem h9_1 : Hands (oo 9 1) 74 (.tmp 11) := ⟨by kernel_rfl, .inl (by kernel_rfl), by kernel_rfl⟩
theorem h9_2 : CallsOf (oo 9 2) 14 75 (.tmp 73) (.tmp 74) := ⟨by kernel_rfl, by kernel_rfl, fun t' w => by kernel_rfl, fun t' w => by kernel_rfl⟩
theorem h9_3 : Hands (oo 9 3) 72 (.tmp 75) := ⟨by kernel_rfl, .inl (by kernel_rfl), by kernel_rfl⟩
theorem h9_4 : Parts (oo 9 4) 76 72 0 := ⟨by kernel_rfl, by kernel_rfl, by kernel_rfl⟩
theorem h9_5 : Parts (oo 9 5) 77 72 1 := ⟨by kernel_rfl, by kernel_rfl, by kernel_rfl⟩
theorem h9_6 : Hands (oo 9 6) 14 (.tmp 76) := ⟨by kernel_rfl, .inr (by kernel_rfl), by kernel_rfl⟩
theorem h9_7 : Hands (oo 9 7) 8 (.tmp 77) := ⟨by kernel_rfl, .inr (by kernel_rfl), by kernel_rfl⟩
theorem kr10 : kC 10 = .region 12 (opsOf (kC 10)) false := by kernel_rfl
theorem ks10 : (opsOf (kC 10)).size = 8 := by kernel_rfl
theorem ko10_0 : (opsOf (kC 10))[0]? = some (oo 10 0) := by kernel_rfl
theorem ko10_1 : (opsOf (kC 10))[1]? = some (oo 10 1) := by kernel_rfl
theorem ko10_2 : (opsOf (kC 10))[2]? = some (oo 10 2) := by kernel_rfl
theorem ko10_3 : (opsOf (kC 10))[3]? = some (oo 10 3) := by kernel_rfl
theorem ko10_4 : (opsOf (kC 10))[4]? = some (oo 10 4) := by kernel_rfl
theorem ko10_5 : (opsOf (kC 10))[5]? = some (oo 10 5) := by kernel_rfl
theorem ko10_6 : (opsOf (kC 10))[6]? = some (oo 10 6) := by kernel_rfl
theorem ko10_7 : (opsOf (kC 10))[7]? = some (oo 10 7) := by kernel_rfl
theorem h10_0 : Hands (oo 10 0) 79 (.tmp 1) := ⟨by kernel_rfl, .inl (by kernel_rfl), by kernel_rfl⟩
theorem h10_1 : Hands (oo 10 1) 80 (.tmp 11) := ⟨by kernel_rfl, .inl (by kernel_rfl), by kernel_rfl⟩
theorem h10_2 : CallsOf (oo 10 2) 14 81 (.tmp 79) (.tmp 80) := ⟨by kernel_rfl, by kernel_rfl, fun t' w => by kernel_rfl, fun t' w => by kernel_rfl⟩
theorem h10_3 : Hands (oo 10 3) 78 (.tmp 81) := ⟨by kernel_rfl, .inl (by kernel_rfl), by kernel_rfl⟩
theorem h10_4 : Parts (oo 10 4) 82 78 0 := ⟨by kernel_rfl, by kernel_rfl, by kernel_rfl⟩
theorem h10_5 : Parts (oo 10 5) 83 78 1 := ⟨by kernel_rfl, by kernel_rfl, by kernel_rfl⟩
theorem h10_6 : Hands (oo 10 6) 15 (.tmp 82) := ⟨by kernel_rfl, .inr (by kernel_rfl), by kernel_rfl⟩
theorem h10_7 : Hands (oo 10 7) 10 (.tmp 83) := ⟨by kernel_rfl, .inr (by kernel_rfl), by kernel_rfl⟩
theorem lat {t t' : Array Value} {S : List Nat} {d1 d2 : Nat} {a b v : Value} (h : Cl.Left t t' S d1 d2 a b) {s : Nat} (hs : s ∉ S) (hv : t[s]? = some v) : t'[s]? = some v := by rw [h.keep s hs]; exact hv
theorem kat {N : Nat} {S : List Nat} {t t' : Array Value} (h : Kp N S (fun i => t.getD i undef) t') {s : Nat} {v : Value} (hs : s ∈ S) (hv : t[s]? = some v) : t'[s]? = some v := by rw [h.2 s hs]; exact congrArg some (getD_of hv)
noncomputable abbrev EE (W : World) : Env := ⟨fun i => okL.contains i, told W, Try.prog.globals.size⟩
abbrev K0 (W : World) : Nat → Prop := fun x => x < W.heap.size
theorem hb_rdF {w w' : World} (h : HB w.heap w'.heap) {A : Option Addr} {n : Nat} {a p s q : Nat → Int} (hr : RdF w A n a p s q) : RdF w' A n a p s q := fun i hi => by
  obtain ⟨b, off, h0, h1, h2, h3, h4⟩ := hr i hi
  exact ⟨b, off, h0, h.cell h1, h.cell h2, h.cell h3, h.cell h4⟩
/-- The pages' slices as a list. -/
theorem pages_list {w : World} {A : Option Addr} {L : Nat} {pg : Nat → List UInt8} (h : LArgs w A L pg) : ∃ P : List Value, P.length = L ∧ Rd w A P ∧ (∀ k v, P[k]? = some v → PgAt w v (pg k)) ∧ ∀ u ∈ P, u.oneCell' = true := by
  have h1 : ∀ k, ∃ v, k < L → ∃ b off, A = some ⟨b, off, none⟩ ∧ w.cell? ⟨b, off + k, none⟩ = some v ∧ PgAt w v (pg k) := fun k => by
    by_cases hk : k < L
    · obtain ⟨b, off, pv, e1, e2, e3⟩ := h k hk
      exact ⟨pv, fun _ => ⟨b, off, e1, e2, e3⟩⟩
    · exact ⟨undef, fun h => absurd h hk⟩
  obtain ⟨f, hf⟩ := Classical.axiomOfChoice h1
  have hat : ∀ k v, ((List.range L).map f)[k]? = some v → k < L ∧ v = f k := fun k v hv => by
    rw [List.getElem?_map] at hv
    obtain ⟨j, hj, rfl⟩ := Option.map_eq_some_iff.1 hv
    have hl := (List.getElem?_eq_some_iff.1 hj).1
    rw [List.length_range] at hl
    rw [List.getElem?_range hl] at hj
    cases hj
    exact ⟨hl, rfl⟩
  refine ⟨(List.range L).map f, by simp, ?_, fun k v hv => ?_, fun u hu => ?_⟩
  · rcases Nat.eq_zero_or_pos L with h0 | h0
    · subst h0
      exact Rd.nil _ _
    · obtain ⟨b, off, rfl, -, -⟩ := hf 0 h0
      refine .inr ⟨b, off, rfl, fun i u hu => ?_⟩
      obtain ⟨hi, rfl⟩ := hat i u hu
      obtain ⟨b', off', e1, e2, -⟩ := hf i hi
      cases e1
      exact e2
  · obtain ⟨hk, rfl⟩ := hat k v hv
    obtain ⟨-, -, -, -, e3⟩ := hf k hk
    exact e3
  · obtain ⟨k, hk, rfl⟩ := List.mem_map.1 hu
    obtain ⟨-, -, -, -, e3⟩ := hf k (List.mem_range.1 hk)
    generalize f k = v at e3 ⊢
    generalize pg k = lk at e3
    cases e3 <;> rfl
/-- Both rows of pages as one. -/
theorem both_args {w : World} {B n c : Nat} {D : Option Addr} {P1 P2 : List Value} {L1 L2 : Nat} {pa pb : Nat → List UInt8} (ho : w.ownsRow B 22 1 (.slice D n c) n (P1 ++ P2)) (hP1 : P1.length = L1) (hP2 : P2.length = L2) (h1 : ∀ j v, P1[j]? = some v → PgAt w v (pa j)) (h2 : ∀ j v, P2[j]? = some v → PgAt w v (pb j)) : LArgs w D n (pgJ pa pb L1) := by
  intro i hi
  have hlen := ho.1
  rw [List.length_append, hP1, hP2] at hlen
  rcases ho.2 with ⟨hv, h0⟩ | ⟨g, cap, cur, hv, hb, hg, hnc, hm, hs, ht⟩
  · omega
  · injection hv with hv
    subst hv
    have hxi : ∃ v, (P1 ++ P2)[i]? = some v ∧ PgAt w v (pgJ pa pb L1 i) := by
      unfold pgJ
      by_cases h3 : i < L1
      · rw [if_pos h3, List.getElem?_append_left (by omega)]
        have : i < P1.length := by omega
        exact ⟨P1[i], List.getElem?_eq_getElem this, h1 i _ (List.getElem?_eq_getElem this)⟩
      · rw [if_neg h3, List.getElem?_append_right (by omega), hP1]
        have : i - L1 < P2.length := by omega
        exact ⟨P2[i - L1], List.getElem?_eq_getElem this, h2 _ _ (List.getElem?_eq_getElem this)⟩
    obtain ⟨v, hv, hpv⟩ := hxi
    refine ⟨g, 0, v, rfl, ?_, hpv⟩
    have h4 : (cur.toList.take (n * 1))[i]? = some v := by rw [ht]; exact hv
    rw [List.getElem?_take, if_pos (by omega)] at h4
    unfold World.cell?
    simp only [hg, Nat.zero_add]
    simpa using h4
/-- A row of what is found, as a block. -/
theorem row_block {w : World} {base n c : Nat} {D : Option Addr} {S : Nat → Fnd} (h : w.ownsRow base 44 4 (.slice D n c) n (flatF S n)) : ∃ g cs, base ≤ g ∧ (0 < n → D = some ⟨g, 0, none⟩ ∧ Bk w g 44 cs ∧ FC cs n (fun i => (S i).lba) (fun i => (S i).page) (fun i => (S i).seq) (fun i => (S i).kind)) ∧ n ≤ 9223372036854775807 := by
  rcases h.2 with ⟨hv, hn⟩ | ⟨g, cap, cur, hv, hb, hg, hnc, hm, hs, ht⟩
  · exact ⟨base, #[], Nat.le_refl _, fun h0 => by omega, by omega⟩
  · injection hv with hA
    subst hA
    refine ⟨g, cur, hb, fun _ => ⟨rfl, hg, fun i hi => ?_⟩, by simp only [maxLen] at hm; omega⟩
    have hc : ∀ j u, j < 4 → [Value.int .i64 (S i).lba, .int .i64 (S i).page, .int .i64 (S i).seq, .int .i64 (S i).kind][j]? = some u → cur[i * 4 + j]? = some u := by
      intro j u hj hu
      have h1 := flatF_at S n i j hi u hu
      rw [← ht, List.getElem?_take, if_pos (by omega)] at h1
      simpa using h1
    exact ⟨hc 0 _ (by omega) rfl, hc 1 _ (by omega) rfl, hc 2 _ (by omega) rfl, hc 3 _ (by omega) rfl⟩
theorem rdF_block {w : World} {n g : Nat} {D : Option Addr} {a p s q : Nat → Int} (h : 0 < n → D = some ⟨g, 0, none⟩ ∧ ∃ cs, Bk w g 44 cs ∧ FC cs n a p s q) : RdF w D n a p s q := fun i hi => by
  obtain ⟨h0, cs, hB, hF⟩ := h (by omega)
  obtain ⟨f0, f1, f2, f3⟩ := hF i hi
  refine ⟨g, 0, h0, ?_, ?_, ?_, ?_⟩ <;> simp only [Nat.zero_add] <;> apply hB.at_ <;> assumption
section
variable {Q : Value → World → Prop} {W : World} {A B : Option Addr} {L1 c1 L2 c2 nw : Nat} {pa pb : Nat → List UInt8} {Z : Nat → Prop} {t : Array Value} {w : World}
/-- The end. -/
theorem bl_end (hq : ∀ w, (∀ x, x < W.heap.size → w.heap[x]? = W.heap[x]?) → (∀ x, x < W.heap.size → x < w.heap.size) → w.os = W.os ∧ w.output = W.output → Q (.bool true) w) {todo : List Item} (h : RX 197 6 (.bool true) t w.heap) : WinsR Try.prog Q (EE W) (K0 W) W Z [] 4 t todo .returning w :=
  winsR_end blF (by kernel_rfl) (fun τ d => (results_tmp rfl _ _ _).trans (by rw [Array.getD_eq_getD_getElem?, h.2]; rfl)) hq
/-- From the answers on. -/
theorem jo3 (hS : Sound Try.prog (EE W)) (hl : LawOk (EE W) (K0 W) W) (HKZ : ∀ x, x < W.heap.size → ¬ Z x) (hq : ∀ w, (∀ x, x < W.heap.size → w.heap[x]? = W.heap[x]?) → (∀ x, x < W.heap.size → x < w.heap.size) → w.os = W.os ∧ w.output = W.output → Q (.bool true) w) {l x y : List Fnd} {D Dx Dy : Option Addr} {cap capx capy : Nat} {u0 : World} (hx : NewI pa L1 x) (hy : NewI pb L2 y) (hN : NewI (pgJ pa pb L1) (L1 + L2) l) (hL : L1 + L2 ≤ 4096)
    (rl : RdF u0 D l.length (fun i => (l.getD i zFnd).lba) (fun i => (l.getD i zFnd).page) (fun i => (l.getD i zFnd).seq) (fun i => (l.getD i zFnd).kind)) (rx : RdF u0 Dx x.length (fun i => (x.getD i zFnd).lba) (fun i => (x.getD i zFnd).page) (fun i => (x.getD i zFnd).seq) (fun i => (x.getD i zFnd).kind)) (hlm : l.length ≤ 9223372036854775807) (hxm : x.length ≤ 9223372036854775807)
    (hb : HB u0.heap w.heap) (ho : w.ownsRow u0.heap.size 44 4 (.slice Dy y.length capy) y.length (flatF (fun i => y.getD i zFnd) y.length))
    (HT : t.size = 197) (b0 : t[0]? = some (.slice A L1 c1)) (b13 : t[13]? = some (.slice D l.length cap)) (b14 : t[14]? = some (.slice Dx x.length capx)) (b15 : t[15]? = some (.slice Dy y.length capy)) : WinsR Try.prog Q (EE W) (K0 W) W Z [] 4 t [.code (kE 12)] .run w := by
  obtain ⟨g, cs, hg, hD, hym⟩ := row_block ho
  have hpg : ∀ i, i < y.length → -2000000 ≤ (y.getD i zFnd).page ∧ (y.getD i zFnd).page ≤ 2000000 := fun i hi => by
    have hm : y.getD i zFnd ∈ y := by
      rw [List.getD_eq_getElem?_getD, List.getElem?_eq_getElem hi]
      exact List.getElem_mem hi
    obtain ⟨k, h1, -, h2⟩ := hy.is_ _ hm
    have h3 : (y.getD i zFnd).page = (k : Int) := by rw [h2]; rfl
    omega
  rw [kE12]
  refine winsR_seq ?_
  refine lwp hS (R := RL [13, 14] Dy y.length capy g (fun i => (y.getD i zFnd).lba) (fun i => (y.getD i zFnd).page + L1) (fun i => (y.getD i zFnd).seq) (fun i => (y.getD i zFnd).kind) w fun i => t.getD i undef) ⟨_, blF⟩ (ok12 _) (fun τ d => p12' (Co.re w τ d) A Dy y.length capy L1 c1 g cs (fun i => (y.getD i zFnd).lba) (fun i => (y.getD i zFnd).page) (fun i => (y.getD i zFnd).seq) (fun i => (y.getD i zFnd).kind) hD (by omega) hpg hym t HT b0 b15) fun t2 u2 h2 => ?_
  obtain ⟨k2, c15, s2, e2, hF⟩ := h2
  have c13 := kat k2 (s := 13) (by decide) b13
  have c14 := kat k2 (s := 14) (by decide) b14
  have hb2 : HB u0.heap u2.heap := ⟨by rw [s2]; exact hb.1, fun i hi => (e2 i (by omega)).trans (hb.2 i hi)⟩
  have HT2 := k2.1
  rw [kE13]
  refine winsR_seq ?_
  rw [kr13]
  refine winsR_reg ?_
  rw [ks13, show List.range 1 = [0] from rfl]
  refine winsR_move hS (v := .int .i64 0) (d := 17) (x := .const (.int .i64 0)) ko13_0 h13_0.1 h13_0.2.1 h13_0.2.2 (fun ok f => .int _ _) rfl (winsR_inDone ?_)
  have HT13 : (t2.setIfInBounds 17 (.int .i64 0)).size = 197 := by simpa using HT2
  have f13_17 : (t2.setIfInBounds 17 (.int .i64 0))[17]? = _ := set_same (by rw [HT2]; decide)
  have f13_13 : (t2.setIfInBounds 17 (.int .i64 0))[13]? = _ := (set_ne (by decide)).trans c13
  have f13_14 : (t2.setIfInBounds 17 (.int .i64 0))[14]? = _ := (set_ne (by decide)).trans c14
  have f13_15 : (t2.setIfInBounds 17 (.int .i64 0))[15]? = _ := (set_ne (by decide)).trans c15
  generalize t2.setIfInBounds 17 (.int .i64 0) = t3 at HT13 f13_17 f13_13 f13_14 f13_15 ⊢
  rw [kE14]
  refine winsR_seq ?_
  rw [kr14]
  refine winsR_reg ?_
  rw [ks14, show List.range 1 = [0] from rfl]
  refine winsR_move hS (v := .int .i64 0) (d := 18) (x := .const (.int .i64 0)) ko14_0 h14_0.1 h14_0.2.1 h14_0.2.2 (fun ok f => .int _ _) rfl (winsR_inDone ?_)
  have HT14 : (t3.setIfInBounds 18 (.int .i64 0)).size = 197 := by simpa using HT13
  have f14_18 : (t3.setIfInBounds 18 (.int .i64 0))[18]? = _ := set_same (by rw [HT13]; decide)
  have f14_13 : (t3.setIfInBounds 18 (.int .i64 0))[13]? = _ := (set_ne (by decide)).trans f13_13
  have f14_14 : (t3.setIfInBounds 18 (.int .i64 0))[14]? = _ := (set_ne (by decide)).trans f13_14
  have f14_15 : (t3.setIfInBounds 18 (.int .i64 0))[15]? = _ := (set_ne (by decide)).trans f13_15
  have f14_17 : (t3.setIfInBounds 18 (.int .i64 0))[17]? = _ := (set_ne (by decide)).trans f13_17
  generalize t3.setIfInBounds 18 (.int .i64 0) = t4 at HT14 f14_18 f14_13 f14_14 f14_15 f14_17 ⊢
  rw [kE15]
  refine winsR_seq ?_
  have hlen : (y.map (mv L1)).length = y.length := List.length_map _
  have hmap : ∀ i, i < y.length → (y.map (mv L1)).getD i zFnd = mv L1 (y.getD i zFnd) := fun i hi => by
    simp only [List.getD_eq_getElem?_getD, List.getElem?_map, List.getElem?_eq_getElem hi]
    rfl
  have hst := steps_of (join_law hx hy hN)
  have ry : RdF u2 Dy (y.map (mv L1)).length (fun i => ((y.map (mv L1)).getD i zFnd).lba) (fun i => ((y.map (mv L1)).getD i zFnd).page) (fun i => ((y.map (mv L1)).getD i zFnd).seq) (fun i => ((y.map (mv L1)).getD i zFnd).kind) := by
    rw [hlen]
    have r0 : RdF u2 Dy y.length _ _ _ _ := rdF_block fun h0 => ⟨(hD h0).1, hF h0⟩
    intro i hi
    dsimp only
    rw [hmap i hi]
    exact r0 i hi
  rw [← hlen] at f14_15 hym
  refine lwp hS (R := fun t' _ => R15 Dx Dy x.length (y.map (mv L1)).length capx capy t') ⟨_, blF⟩ (ok15 _) (fun τ d => p15' (Co.re u2 τ d) D Dx Dy l.length x.length (y.map (mv L1)).length cap capx capy _ _ _ _ _ _ _ _ _ _ _ _ _ (hb_rdF hb2 rl) (hb_rdF hb2 rx) ry hst hlm hxm hym t4 HT14 f14_13 f14_14 f14_15 f14_17 f14_18) fun t5 u5 h5 => ?_
  obtain ⟨HT5, g17, g18, g14, g15⟩ := h5
  exact lret hS (R := RX 197 6 (.bool true)) ⟨_, blF⟩ (ok16 _) (fun τ d => p16' (Co.re u5 τ d) Dx Dy x.length (y.map (mv L1)).length capx capy t5 HT5 g14 g15 g17 g18) fun t6 u6 todo h6 => bl_end hq h6
/-- From all pages on. -/
theorem jo2 (hS : Sound Try.prog (EE W)) (hl : LawOk (EE W) (K0 W) W) (HKZ : ∀ x, x < W.heap.size → ¬ Z x) (hq : ∀ w, (∀ x, x < W.heap.size → w.heap[x]? = W.heap[x]?) → (∀ x, x < W.heap.size → x < w.heap.size) → w.os = W.os ∧ w.output = W.output → Q (.bool true) w) {n c B0 : Nat} {D : Option Addr} {P1 P2 : List Value} (hn : n = L1 + L2) (ho : w.ownsRow B0 22 1 (.slice D n c) n (P1 ++ P2)) (hP1 : P1.length = L1) (hP2 : P2.length = L2) (hg1 : ∀ j v, P1[j]? = some v → PgAt w v (pa j)) (hg2 : ∀ j v, P2[j]? = some v → PgAt w v (pb j)) (hA1 : LArgs w A L1 pa) (hA2 : LArgs w B L2 pb)
    (hw1 : 1 ≤ nw) (hw2 : nw ≤ 8) (HT : t.size = 197) (b0 : t[0]? = some (.slice A L1 c1)) (b1 : t[1]? = some (.slice B L2 c2)) (b11 : t[11]? = some (.int .i64 nw)) (b12 : t[12]? = some (.slice D n c)) : WinsR Try.prog Q (EE W) (K0 W) W Z [] 4 t [.code (kE 7)] .run w := by
  subst hn
  rw [kE7]
  refine winsR_seq ?_
  rw [kr7]
  refine winsR_newest8 hS hl HKZ (id := 8) (ops := opsOf (kC 7)) (p := 12) (q := 11) (s1 := 62) (s2 := 63) (s3 := 64) (s4 := 61) (e1 := 65) (e2 := 66) (d1 := 13) (d2 := 8) ks7 ko7_0 ko7_1 ko7_2 ko7_3 ko7_4 ko7_5 ko7_6 ko7_7 h7_0 h7_1 h7_2 h7_3 h7_4 h7_5 h7_6 h7_7 (by decide) (by decide) (by decide) (by rw [HT]; decide) (by rw [HT]; decide) b12 b11 hw1 hw2 (both_args ho hP1 hP2 hg1 hg2) ?_ ?_
  · intro Z1 l Dl cap u1 t1 hL hN HKZ1 hb1 ho1 hl1
    replace hb1 : HB w.heap u1.heap := .of hb1
    have HT1 := hl1.size.trans HT
    rw [kE8]
    refine winsR_seq ?_
    refine lwp hS (R := RK 197 [0, 1, 11, 13] u1 fun i => t1.getD i undef) ⟨_, blF⟩ (ok8 _) (fun τ d => p8n' (Co.re u1 τ d) t1 HT1 hl1.two) fun t2 u2 h2 => ?_
    obtain ⟨k2, e2⟩ := h2
    have hb2 : HB u1.heap u2.heap := by rw [e2]; exact HB.refl _
    have HT2 := k2.1
    have c0 := kat k2 (s := 0) (by decide) (lat hl1 (by decide) b0)
    have c1 := kat k2 (s := 1) (by decide) (lat hl1 (by decide) b1)
    have c11 := kat k2 (s := 11) (by decide) (lat hl1 (by decide) b11)
    have c13 := kat k2 (s := 13) (by decide) hl1.one
    rw [kE9]
    refine winsR_seq ?_
    rw [kr9]
    refine winsR_newest8 hS hl HKZ1 (id := 11) (ops := opsOf (kC 9)) (p := 0) (q := 11) (s1 := 73) (s2 := 74) (s3 := 75) (s4 := 72) (e1 := 76) (e2 := 77) (d1 := 14) (d2 := 8) ks9 ko9_0 ko9_1 ko9_2 ko9_3 ko9_4 ko9_5 ko9_6 ko9_7 h9_0 h9_1 h9_2 h9_3 h9_4 h9_5 h9_6 h9_7 (by decide) (by decide) (by decide) (by rw [HT2]; decide) (by rw [HT2]; decide) c0 c11 hw1 hw2 ((hb1.trans hb2).args hA1) ?_ fun t' h => absurd h (by omega)
    intro Z3 x Dx capx u3 t3 _ hx HKZ3 hb3 ho3 hl3
    replace hb3 : HB u2.heap u3.heap := .of hb3
    have HT3 := hl3.size.trans HT2
    have d0 := lat hl3 (s := 0) (by decide) c0
    have d1 := lat hl3 (s := 1) (by decide) c1
    have d11 := lat hl3 (s := 11) (by decide) c11
    have d13 := lat hl3 (s := 13) (by decide) c13
    rw [kE10]
    refine winsR_seq ?_
    rw [kr10]
    refine winsR_newest8 hS hl HKZ3 (id := 12) (ops := opsOf (kC 10)) (p := 1) (q := 11) (s1 := 79) (s2 := 80) (s3 := 81) (s4 := 78) (e1 := 82) (e2 := 83) (d1 := 15) (d2 := 10) ks10 ko10_0 ko10_1 ko10_2 ko10_3 ko10_4 ko10_5 ko10_6 ko10_7 h10_0 h10_1 h10_2 h10_3 h10_4 h10_5 h10_6 h10_7 (by decide) (by decide) (by decide) (by rw [HT3]; decide) (by rw [HT3]; decide) d1 d11 hw1 hw2 ((hb1.trans (hb2.trans hb3)).args hA2) ?_ fun t' h => absurd h (by omega)
    intro Z4 y Dy capy u4 t4 _ hy HKZ4 hb4 ho4 hl4
    replace hb4 : HB u3.heap u4.heap := .of hb4
    have HT4 := hl4.size.trans HT3
    rw [kE11]
    refine winsR_seq ?_
    refine lwp hS (R := RK 197 [0, 13, 14, 15] u4 fun i => t4.getD i undef) ⟨_, blF⟩ (ok11 _) (fun τ d => p11' (Co.re u4 τ d) t4 HT4 (lat hl4 (by decide) hl3.two) hl4.two) fun t5 u5 h5 => ?_
    obtain ⟨k5, e5⟩ := h5
    have hb5 : HB u4.heap u5.heap := by rw [e5]; exact HB.refl _
    obtain ⟨-, -, -, -, hlm⟩ := row_block ho1
    obtain ⟨-, -, -, -, hxm⟩ := row_block ho3
    exact jo3 (u0 := u3) hS hl HKZ4 hq hx hy hN hL (hb_rdF (hb2.trans hb3) (rdF_own ho1)) (rdF_own ho3) hlm hxm (hb4.trans hb5) (hb5.own ho4) k5.1 (kat k5 (by decide) (lat hl4 (by decide) d0)) (kat k5 (by decide) (lat hl4 (by decide) d13)) (kat k5 (by decide) (lat hl4 (by decide) hl3.one)) (kat k5 (by decide) hl4.one)
  · intro t1 hL hl1
    have HT1 := hl1.size.trans HT
    rw [kE8]
    refine winsR_seq ?_
    exact lret hS (R := RX 197 6 (.bool true)) ⟨_, blF⟩ (ok8 _) (fun τ d => p8f' (Co.re w τ d) D _ c _ _ hL t1 HT1 hl1.two (lat hl1 (by decide) b12)) fun t2 u2 todo h2 => bl_end hq h2
/-- The law, from its beginning. -/
theorem jo1 (hS : Sound Try.prog (EE W)) (hl : LawOk (EE W) (K0 W) W) (HKZ : ∀ x, x < W.heap.size → ¬ Z x) (hq : ∀ w, (∀ x, x < W.heap.size → w.heap[x]? = W.heap[x]?) → (∀ x, x < W.heap.size → x < w.heap.size) → w.os = W.os ∧ w.output = W.output → Q (.bool true) w) {z : Int} (hz1 : -9223372036854775808 ≤ z) (hz2 : z ≤ 9223372036854775807) (hA : LArgs w A L1 pa) (hB : LArgs w B L2 pb) (hL1 : L1 ≤ 2000000) (hL2 : L2 ≤ 2000000 - L1)
    (HT : t.size = 197) (b0 : t[0]? = some (.slice A L1 c1)) (b1 : t[1]? = some (.slice B L2 c2)) (b2 : t[2]? = some (.int .i64 z)) : WinsR Try.prog Q (EE W) (K0 W) W Z [] 4 t [.code (kE 0)] .run w := by
  rw [kE0]
  refine winsR_seq ?_
  rw [kr0]
  refine winsR_reg ?_
  rw [ks0, show List.range 1 = [0] from rfl]
  refine winsR_move hS (v := .bool false) (d := 6) (x := .const (.bool false)) ko0_0 h0_0.1 h0_0.2.1 h0_0.2.2 (fun ok f => .bool _) rfl (winsR_inDone ?_)
  have HT0 : (t.setIfInBounds 6 (.bool false)).size = 197 := by simpa using HT
  have f0_6 : (t.setIfInBounds 6 (.bool false))[6]? = _ := set_same (by rw [HT]; decide)
  have f0_0 : (t.setIfInBounds 6 (.bool false))[0]? = _ := (set_ne (by decide)).trans b0
  have f0_1 : (t.setIfInBounds 6 (.bool false))[1]? = _ := (set_ne (by decide)).trans b1
  have f0_2 : (t.setIfInBounds 6 (.bool false))[2]? = _ := (set_ne (by decide)).trans b2
  generalize t.setIfInBounds 6 (.bool false) = t1 at HT0 f0_6 f0_0 f0_1 f0_2 ⊢
  rw [kE1]
  refine winsR_seq ?_
  refine lwp hS (R := R1 w fun i => t1.getD i undef) ⟨_, blF⟩ (ok1 _) (fun τ d => p1' (Co.re w τ d) t1 HT0) fun t2 u2 h2 => ?_
  obtain ⟨k2, k8, hb2, Dp, c, k7, ho2⟩ := h2
  clear HT
  have HT := k2.1
  rw [kE2]
  refine winsR_seq ?_
  rw [kr2]
  refine winsR_newest1 hS hl HKZ (id := 2) (ops := opsOf (kC 2)) (p := 7) (s1 := 29) (s2 := 30) (s3 := 31) (s4 := 28) (e1 := 32) (e2 := 33) (d1 := 9) (d2 := 10) ks2 ko2_0 ko2_1 ko2_2 ko2_3 ko2_4 ko2_5 ko2_6 ko2_7 h2_0 h2_1 (h2_1k _) h2_1r h2_2 h2_3 h2_4 h2_5 h2_6 h2_7 (by decide) (by rw [HT]; decide) (by rw [HT]; decide) k7 (pg_own (own_of_hW ho2) (by omega)) fun Z1 l1 D1 cap1 u3 t3 hN1 HKZ1 hb3 ho3 hl3 => ?_
  obtain rfl := pk_found hN1
  replace hb3 : HB u2.heap u3.heap := .of hb3
  have HT3 := hl3.size.trans HT
  obtain ⟨g, rfl, hc⟩ : ∃ g, D1 = some ⟨g, 0, none⟩ ∧ u3.cell? ⟨g, 0, none⟩ = some (.int .i64 3) := by
    obtain ⟨b, off, e1, e2, -⟩ := rdF_own ho3 0 (by decide)
    rcases ho3.2 with ⟨-, h0⟩ | ⟨g, _, _, hv, -⟩
    · simp at h0
    · injection hv with hv
      subst hv
      cases e1
      exact ⟨_, rfl, e2⟩
  rw [kE3]
  refine winsR_seq ?_
  refine lwp hS (R := RK 197 [0, 1, 2] u3 fun i => t3.getD i undef) ⟨_, blF⟩ (ok3 _) (fun τ d => p3' (Co.re u3 τ d) g cap1 hc t3 HT3 (lat hl3 (by decide) k8) hl3.one hl3.two) fun t4 u4 h4 => ?_
  obtain ⟨k4, e4⟩ := h4
  have hb4 : HB w.heap u4.heap := by rw [e4]; exact hb2.trans hb3
  have a0 := kat k4 (s := 0) (by decide) (lat hl3 (by decide) (kat k2 (by decide) f0_0))
  have a1 := kat k4 (s := 1) (by decide) (lat hl3 (by decide) (kat k2 (by decide) f0_1))
  have a2 := kat k4 (s := 2) (by decide) (lat hl3 (by decide) (kat k2 (by decide) f0_2))
  rw [kE4]
  refine winsR_seq ?_
  refine lwp hS (R := RV 197 [0, 1] 11 (.int .i64 (1 + ((pickN z 8 : Nat) : Int))) u4 fun i => t4.getD i undef) ⟨_, blF⟩ (ok4 _) (fun τ d => p4' (Co.re u4 τ d) z hz1 hz2 t4 k4.1 a2) fun t5 u5 h5 => ?_
  obtain ⟨k5, e5, k11⟩ := h5
  have pz := pickN_lt z 8 (by omega)
  have d0 := kat k5 (s := 0) (by decide) a0
  have d1 := kat k5 (s := 1) (by decide) a1
  have d11 : t5[11]? = some (.int .i64 ((1 + pickN z 8 : Nat) : Int)) := k11.trans (by rw [Int.natCast_add]; rfl)
  have hb5 : HB w.heap u5.heap := by rw [e5]; exact hb4
  obtain ⟨P1, hP1, hr1, hg1, ho1⟩ := pages_list (hb5.args hA)
  obtain ⟨P2, hP2, hr2, hg2, ho2'⟩ := pages_list (hb5.args hB)
  rw [kE5]
  refine winsR_seq ?_
  refine lwp hS (R := RB u5.heap.size [1, 11] L1 P1 0 (.slice A L1 c1) u5 fun i => t5.getD i undef) ⟨_, blF⟩ (ok5 _) (fun τ d => p5' (Co.re u5 τ d) A L1 c1 P1 hP1 hr1 hL1 ho1 t5 k5.1 d0) fun t6 u6 h6 => ?_
  obtain ⟨k6, s6, e6, i0, D6, c6, i12, hc6, ho6⟩ := h6
  have hb6 : HB u5.heap u6.heap := ⟨s6, e6⟩
  have i1 := kat k6 (s := 1) (by decide) d1
  have i11 := kat k6 (s := 11) (by decide) d11
  rw [kE6]
  refine winsR_seq ?_
  refine lwp hS (R := RB u5.heap.size [0, 11] (L1 + L2) (P1 ++ P2) 1 (.slice B L2 c2) u6 fun i => t6.getD i undef) ⟨_, blF⟩ (ok6 _) (fun τ d => p6' (Co.re u6 τ d) u5.heap.size D6 B L1 c6 L2 c2 P1 P2 s6 (own_of_hW ho6) hL1 hP2 (hb6.rd hr2) (by omega) ho2' t6 k6.1 i1 i12) fun t7 u7 h7 => ?_
  obtain ⟨k7', s7, e7, j1, D7, c7, j12, hc7, ho7⟩ := h7
  have hb7 : HB u5.heap u7.heap := ⟨Nat.le_trans s6 s7, fun i hi => (e7 i hi).trans (e6 i hi)⟩
  exact jo2 hS hl HKZ1 hq rfl (own_of_hW ho7) hP1 hP2 (fun j v hj => hb7.pg (hg1 j v hj)) (fun j v hj => hb7.pg (hg2 j v hj)) ((hb5.trans hb7).args hA) ((hb5.trans hb7).args hB) (by omega) (by omega) k7'.1 (kat k7' (by decide) i0) j1 (kat k7' (by decide) i11) j12
end
end Go.Proofs.Ytlaipigilikmbaa.JoW
