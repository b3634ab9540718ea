/- The walk of granarylaw1.bookStep: one call on both books. -/
import Derived.Test.YthaoiilghphbiaaDoorBookRef
import Derived.Test.YthaoiilghphbiaaDoorBookMoves
import Derived.Deep.DeepCutAuto
import Derived.Deep.QuietTactic
set_option linter.unusedVariables false
namespace Go.Proofs.YthaoiilghphbiaaDoor.BookW
open Go.RowKit FenP BookP ToldW

attribute [local irreducible] lb fillA setCode afterSet

theorem BookAt.le {w : World} {B T g n m : Nat} {at_ : List Int} (h : BookAt w B T g n m at_) : B ≤ T := by
  obtain ⟨_, _, _, _, _, _, _, _, _, _, _, _, h, -⟩ := h
  omega
/-- Both books say the same. -/
def Both (w : World) (B T B' T' g r n m : Nat) (at_ : List Int) : Prop := BookAt w B T g n m at_ ∧ RefAt w B' T' r n m at_ ∧ T ≤ B' ∧ T' ≤ w.heap.size
theorem Both.below {w w' : World} {B T B' T' g r n m : Nat} {at_ : List Int} (h : Both w B T B' T' g r n m at_) (hb : Below w.heap.size w w') : Both w' B T B' T' g r n m at_ :=
  ⟨h.1.below hb (Nat.le_refl _), h.2.1.below hb (Nat.le_refl _), h.2.2.1, Nat.le_trans h.2.2.2 hb.size⟩

def StepPost (w0 w : World) (B T B' T' g r n m : Nat) (e : Ending) (w' : World) : Prop :=
  e = .returned (.bool true) ∧ (∃ at', Both w' B T B' T' g r n m at') ∧ Below w0.heap.size w0 w'

theorem op_cell {w : World} {o : Nat} {k a b : Int} (h : Bk w o 30 #[.int .i64 k, .int .i64 a, .int .i64 b]) :
    w.cell? ⟨o, 0, none⟩ = some (.int .i64 k) ∧ w.cell? ⟨o, 1, none⟩ = some (.int .i64 a) ∧ w.cell? ⟨o, 2, none⟩ = some (.int .i64 b) := ⟨h.at_ (i := 0) rfl, h.at_ (i := 1) rfl, h.at_ (i := 2) rfl⟩
theorem Kept.bk {B T o : Nat} {w w' : World} {t : TypeId} {cs : Array Value} (hk : Kept B T w w') (h : Bk w o t cs) (hT : T ≤ o) : Bk w' o t cs := (hk.2 o hT h.lt).trans h

section
variable (w0 w : World) (T B' T' g r n m : Nat) (at_ : List Int) (a b : Int)

set_option maxRecDepth 100000 in
set_option maxHeartbeats 2000000 in
theorem step_set (hE : ErrT w0) (hw : Below w0.heap.size w0 w) (h : Both w w0.heap.size T B' T' g r n m at_) (a1 : -9223372036854775808 ≤ a) (a2 : a ≤ 9223372036854775807) (b1 : -9223372036854775808 ≤ b) (b2 : b ≤ 9223372036854775807) :
    Calls Tryd.prog 15 #[.pointer (some ⟨g, 0, none⟩), .pointer (some ⟨r, 0, none⟩), .agg #[.int .i64 1, .int .i64 a, .int .i64 b]] w (StepPost w0 w w0.heap.size T B' T' g r n m) := by
  obtain ⟨hbk, hrf, hT, hT'⟩ := h
  have hsz := hbk.sizes
  have hBT := hbk.le
  have HE := hide hE
  have HU : Hid (0 ≤ b → ∀ l k : Nat, l < n → k < n → at_.getD l 0 = b → at_.getD k 0 = b → l = k) := hide fun h0 l k hl hk e1 e2 => hbk.uniq hl hk (by omega) (e1.trans e2.symm)
  have hB' : B' < T' := by obtain ⟨_, _, _, _, h, _⟩ := hrf; omega
  have ho := Bk.new w 30 #[.int .i64 1, .int .i64 a, .int .i64 b]
  have hbA : Below w.heap.size w (w.alloc (.cells #[.int .i64 1, .int .i64 a, .int .i64 b] 30)) := (Below.refl _ _).alloc (Nat.le_refl _) _
  have hrA := hrf.below hbA (Nat.le_refl _)
  have hkA := hbk.below hbA (Nat.le_refl _)
  have hwA := hw.trans (hbA.mono hw.size)
  have hsA : w.heap.size ≤ (w.alloc (.cells #[.int .i64 1, .int .i64 a, .int .i64 b] 30)).heap.size := hbA.size
  clear hE hbk hrf hbA hw
  go_enter Tryd.func15, Tryd.ntmps15
  go_wp2_with fail
  generalize hwa : w.alloc (.cells #[.int .i64 1, .int .i64 a, .int .i64 b] 30) = wa at *
  clear hwa
  refine (set_any w0.heap.size T g n m at_ a b _ hkA).mono ?_
  rintro e w1 ⟨hk1, hset⟩
  have ho1 := hk1.bk ho (by omega)
  obtain ⟨o0, o1, o2⟩ := op_cell ho1
  have hr1 := hrA.kept hk1 hT
  have hw1 := hwA.trans hk1.1
  have hs1 := hk1.1.size
  clear hrA hkA hk1 ho hwA
  rcases hset with ⟨rfl, hcode, hbk1⟩ | ⟨c, rfl, hcode, hc, hbk1⟩
  · have HC := hide hcode
    clear hcode
    go_wp2_with fail
    refine (refSet_any B' T' r n m at_ a b _ hr1 hsz.1 hsz.2.1 HU.out).mono ?_
    rintro e w2 ⟨rfl, hr2, hk2⟩
    rw [HC.out]
    rw [afterSet_ok HC.out] at hr2
    have hbk2 := hbk1.under hk2.1 hT
    have hw2 := hw1.trans (hk2.1.mono (by omega))
    have hs2 := hk2.1.size
    clear hr1 hbk1 hk2
    go_wp2_with fail
    refine (error_nil 0 _ true rfl).mono ?_
    rintro e w3 ⟨rfl, hb3⟩
    go_wp2_with fail
    go_ret
    exact ⟨rfl, ⟨_, Both.below ⟨hbk2, hr2, hT, by omega⟩ hb3⟩, hw2.trans (hb3.mono hw2.size)⟩
  · have HC := hide hcode
    clear hcode
    unfold errV
    go_wp2_with fail
    refine (refSet_any B' T' r n m at_ a b _ hr1 hsz.1 hsz.2.1 HU.out).mono ?_
    rintro e w2 ⟨rfl, hr2, hk2⟩
    rw [HC.out]
    rw [afterSet_no (by rw [HC.out]; omega)] at hr2
    have hbk2 := hbk1.under hk2.1 hT
    have hw2 := hw1.trans (hk2.1.mono (by omega))
    have hs2 := hk2.1.size
    clear hr1 hbk1 hk2
    go_wp2_with fail
    refine (error_some c c _ (HE.out.below hw2 (Nat.le_refl _)) true (by simp)).mono ?_
    rintro e w3 ⟨rfl, hb3⟩
    go_wp2_with fail
    go_ret
    exact ⟨rfl, ⟨_, Both.below ⟨hbk2, hr2, hT, by omega⟩ hb3⟩, hw2.trans (hb3.mono hw2.size)⟩

set_option maxRecDepth 100000 in
set_option maxHeartbeats 2000000 in
theorem step_drop (hE : ErrT w0) (hw : Below w0.heap.size w0 w) (h : Both w w0.heap.size T B' T' g r n m at_) (a1 : -9223372036854775808 ≤ a) (a2 : a ≤ 9223372036854775807) (b1 : -9223372036854775808 ≤ b) (b2 : b ≤ 9223372036854775807) :
    Calls Tryd.prog 15 #[.pointer (some ⟨g, 0, none⟩), .pointer (some ⟨r, 0, none⟩), .agg #[.int .i64 2, .int .i64 a, .int .i64 b]] w (StepPost w0 w w0.heap.size T B' T' g r n m) := by
  obtain ⟨hbk, hrf, hT, hT'⟩ := h
  have hsz := hbk.sizes
  have hBT := hbk.le
  have HE := hide hE
  have hB' : B' < T' := by obtain ⟨_, _, _, _, h, _⟩ := hrf; omega
  have ho := Bk.new w 30 #[.int .i64 2, .int .i64 a, .int .i64 b]
  have hbA : Below w.heap.size w (w.alloc (.cells #[.int .i64 2, .int .i64 a, .int .i64 b] 30)) := (Below.refl _ _).alloc (Nat.le_refl _) _
  have hrA := hrf.below hbA (Nat.le_refl _)
  have hkA := hbk.below hbA (Nat.le_refl _)
  have hwA := hw.trans (hbA.mono hw.size)
  have hsA : w.heap.size ≤ (w.alloc (.cells #[.int .i64 2, .int .i64 a, .int .i64 b] 30)).heap.size := hbA.size
  clear hE hbk hrf hbA hw
  go_enter Tryd.func15, Tryd.ntmps15
  go_wp2_with fail
  generalize hwa : w.alloc (.cells #[.int .i64 2, .int .i64 a, .int .i64 b] 30) = wa at *
  clear hwa
  refine (drop_any w0.heap.size T g n m at_ a _ hkA).mono ?_
  rintro e w1 ⟨hk1, hd⟩
  have ho1 := hk1.bk ho (by omega)
  obtain ⟨o0, o1, o2⟩ := op_cell ho1
  have hr1 := hrA.kept hk1 hT
  have hw1 := hwA.trans hk1.1
  have hs1 := hk1.1.size
  obtain ⟨gw, cap, cur, q1, q2, q3, q4, q5, q6, q7, q8, q9, q10⟩ := hr1.open_ hsz.1
  have c0 := q1.at_ (i := 0) (u := .slice (some ⟨gw, 0, none⟩) n cap) rfl
  clear hrA hkA hk1 ho hwA
  rcases hd with ⟨hin, rfl, hbk1⟩ | ⟨i1, i2, rfl, hbk1⟩
  · clear q1 q2 q5 q6 q10
    unfold errV
    by_cases g1 : a < 0
    · have HIN := hide hin
      clear hin
      go_wp2_with fail
      go_region
      go_wp2_with fail
      refine (error_some 1 1 _ (HE.out.below hw1.drew (Nat.le_refl _)) true rfl).mono ?_
      rintro e w3 ⟨rfl, hb3⟩
      go_wp2_with fail
      go_ret
      exact ⟨rfl, ⟨_, Both.below (w := w1.drew) ⟨hbk1.below (Below.refl _ _).drew (Nat.le_refl _), hr1.below (Below.refl _ _).drew (Nat.le_refl _), hT, by simp; omega⟩ hb3⟩, hw1.drew.trans (hb3.mono hw1.size)⟩
    · have g2 : (n : Int) ≤ a := by omega
      have d1 : decide (a < 0) = false := decide_eq_false g1
      have d2 : decide ((n : Int) ≤ a) = true := decide_eq_true g2
      clear hin
      go_wp2_with fail
      go_region
      go_wp2_with fail
      refine (error_some 1 1 _ (HE.out.below hw1.drew (Nat.le_refl _)) true rfl).mono ?_
      rintro e w3 ⟨rfl, hb3⟩
      go_wp2_with fail
      go_ret
      exact ⟨rfl, ⟨_, Both.below (w := w1.drew) ⟨hbk1.below (Below.refl _ _).drew (Nat.le_refl _), hr1.below (Below.refl _ _).drew (Nat.le_refl _), hT, by simp; omega⟩ hb3⟩, hw1.drew.trans (hb3.mono hw1.size)⟩
  · obtain ⟨l, rfl⟩ := Int.eq_ofNat_of_zero_le i1
    have hc := Bk.at_ (t := 3) q2 (take_at q6 (i := l) (by omega) q10)
    have hf := Bk.free (t := 3) q2 l
    have HP := hide (refPut q1 q2 q3 q4 q5 q6 q7 q8 q9 q10 l (-1))
    have HK : Hid (Kept B' T' w1 (w1.setCell ⟨gw, l, none⟩ (.int .i64 (-1)))) := hide (Kept.setCell q8 q9 _)
    generalize at_.getD l 0 = old at hc
    clear q1 q2 q4 q5 q6 q10 hr1
    rw [Int.toNat_natCast] at hbk1
    have d1 : decide ((l : Int) < 0) = false := decide_eq_false (by omega)
    have d2 : decide ((n : Int) ≤ (l : Int)) = false := decide_eq_false (by omega)
    have d3 : decide (n ≤ l) = false := decide_eq_false (by omega)
    go_wp2_with fail
    go_region
    go_wp2_with fail
    go_region
    go_wp2_with fail
    go_ret
    have hbk2 := hbk1.under HK.out.1 hT
    refine ⟨rfl, ⟨_, hbk2, HP.out, hT, ?_⟩, ?_⟩
    · show T' ≤ (w1.setCell ⟨gw, l, none⟩ (.int .i64 (-1))).heap.size
      have := HK.out.1.size
      omega
    · exact (hw1.trans (HK.out.1.mono (by omega))).drew.drew

set_option maxRecDepth 100000 in
set_option maxHeartbeats 2000000 in
theorem step_at (hE : ErrT w0) (hw : Below w0.heap.size w0 w) (h : Both w w0.heap.size T B' T' g r n m at_) (a1 : -9223372036854775808 ≤ a) (a2 : a ≤ 9223372036854775807) (b1 : -9223372036854775808 ≤ b) (b2 : b ≤ 9223372036854775807) :
    Calls Tryd.prog 15 #[.pointer (some ⟨g, 0, none⟩), .pointer (some ⟨r, 0, none⟩), .agg #[.int .i64 3, .int .i64 a, .int .i64 b]] w (StepPost w0 w w0.heap.size T B' T' g r n m) := by
  obtain ⟨hbk, hrf, hT, hT'⟩ := h
  have hsz := hbk.sizes
  have hBT := hbk.le
  have HE := hide hE
  have hB' : B' < T' := by obtain ⟨_, _, _, _, h, _⟩ := hrf; omega
  have ho := Bk.new w 30 #[.int .i64 3, .int .i64 a, .int .i64 b]
  have hbA : Below w.heap.size w (w.alloc (.cells #[.int .i64 3, .int .i64 a, .int .i64 b] 30)) := (Below.refl _ _).alloc (Nat.le_refl _) _
  have hrA := hrf.below hbA (Nat.le_refl _)
  have hkA := hbk.below hbA (Nat.le_refl _)
  have hwA := hw.trans (hbA.mono hw.size)
  have hsA : w.heap.size ≤ (w.alloc (.cells #[.int .i64 3, .int .i64 a, .int .i64 b] 30)).heap.size := hbA.size
  clear hE hbk hrf hbA hw
  go_enter Tryd.func15, Tryd.ntmps15
  go_wp2_with fail
  generalize hwa : w.alloc (.cells #[.int .i64 3, .int .i64 a, .int .i64 b] 30) = wa at *
  clear hwa
  refine (at_any w0.heap.size T g n m at_ a _ hkA).mono ?_
  rintro e w1 ⟨hl, rfl⟩
  obtain ⟨o0, o1, o2⟩ := op_cell ho
  have hr1 := hrA
  have hk1 := hkA
  have hw1 := hwA
  have hlen := hkA.len
  obtain ⟨gw, cap, cur, q1, q2, q3, q4, q5, q6, q7, q8, q9, q10⟩ := hr1.open_ hsz.1
  have c0 := q1.at_ (i := 0) (u := .slice (some ⟨gw, 0, none⟩) n cap) rfl
  clear hrA hkA ho hwA
  rcases hl with ⟨hin, rfl⟩ | ⟨i1, i2, hv, rfl⟩ | ⟨i1, i2, hv, he⟩
  · rw [hlen] at hin
    clear q1 q2 q5 q6 q10 hlen
    unfold errV
    by_cases g1 : a < 0
    · clear hin
      have d1 : decide (a < 0) = true := decide_eq_true g1
      go_wp2_with fail
      go_region
      go_wp2_with fail
      refine (error_some 1 1 _ (HE.out.below hw1.drew (Nat.le_refl _)) true rfl).mono ?_
      rintro e w3 ⟨rfl, hb3⟩
      go_wp2_with fail
      go_ret
      exact ⟨rfl, ⟨_, Both.below (w := wa.drew) ⟨hk1.below (Below.refl _ _).drew (Nat.le_refl _), hr1.below (Below.refl _ _).drew (Nat.le_refl _), hT, by simp; omega⟩ hb3⟩, hw1.drew.trans (hb3.mono hw1.size)⟩
    · have g2 : (n : Int) ≤ a := by omega
      have d1 : decide (a < 0) = false := decide_eq_false g1
      have d2 : decide ((n : Int) ≤ a) = true := decide_eq_true g2
      clear hin
      go_wp2_with fail
      go_region
      go_wp2_with fail
      refine (error_some 1 1 _ (HE.out.below hw1.drew (Nat.le_refl _)) true rfl).mono ?_
      rintro e w3 ⟨rfl, hb3⟩
      go_wp2_with fail
      go_ret
      exact ⟨rfl, ⟨_, Both.below (w := wa.drew) ⟨hk1.below (Below.refl _ _).drew (Nat.le_refl _), hr1.below (Below.refl _ _).drew (Nat.le_refl _), hT, by simp; omega⟩ hb3⟩, hw1.drew.trans (hb3.mono hw1.size)⟩
  · rw [hlen] at i2
    obtain ⟨l, rfl⟩ := Int.eq_ofNat_of_zero_le i1
    rw [Int.toNat_natCast] at hv
    have hc := Bk.at_ (t := 3) q2 (take_at q6 (i := l) (by omega) q10)
    rw [hv] at hc
    clear q1 q2 q5 q6 q10 hlen hv
    have d1 : decide ((l : Int) < 0) = false := decide_eq_false (by omega)
    have d2 : decide ((n : Int) ≤ (l : Int)) = false := decide_eq_false (by omega)
    have d3 : decide (n ≤ l) = false := decide_eq_false (by omega)
    unfold errV
    go_wp2_with fail
    go_region
    go_wp2_with fail
    go_region
    go_wp2_with fail
    refine (error_some 4 4 _ (HE.out.below hw1.drew.drew (Nat.le_refl _)) true rfl).mono ?_
    rintro e w3 ⟨rfl, hb3⟩
    go_wp2_with fail
    go_ret
    exact ⟨rfl, ⟨_, Both.below (w := wa.drew.drew) ⟨hk1.below (Below.refl _ _).drew.drew (Nat.le_refl _), hr1.below (Below.refl _ _).drew.drew (Nat.le_refl _), hT, by simp; omega⟩ hb3⟩, hw1.drew.drew.trans (hb3.mono hw1.size)⟩
  · rw [hlen] at i2
    obtain ⟨l, rfl⟩ := Int.eq_ofNat_of_zero_le i1
    rw [Int.toNat_natCast] at hv he
    have hc := Bk.at_ (t := 3) q2 (take_at q6 (i := l) (by omega) q10)
    have hval := hk1.val (l := l) (by omega)
    obtain ⟨v, hvv⟩ : ∃ v, v = at_.getD l 0 := ⟨_, rfl⟩
    rw [← hvv] at hc hv he hval
    subst he
    have hv0 : 0 ≤ v ∧ v ≤ 4096 := by omega
    clear q1 q2 q5 q6 q10 hlen hv hvv hval
    have d1 : decide ((l : Int) < 0) = false := decide_eq_false (by omega)
    have d2 : decide ((n : Int) ≤ (l : Int)) = false := decide_eq_false (by omega)
    have d3 : decide (n ≤ l) = false := decide_eq_false (by omega)
    have d4 : decide (v < 0) = false := decide_eq_false (by omega)
    have d5 : (v == v) = true := by simp
    go_wp2_with fail
    go_region
    go_wp2_with fail
    go_region
    go_wp2_with fail
    go_region
    go_wp2_with fail
    go_ret
    exact ⟨rfl, ⟨_, Both.below (w := wa) ⟨hk1, hr1, hT, by omega⟩ (Below.refl _ _).drew.drew.drew⟩, hw1.drew.drew.drew⟩

set_option maxRecDepth 100000 in
set_option maxHeartbeats 2000000 in
theorem step_of (hE : ErrT w0) (hw : Below w0.heap.size w0 w) (h : Both w w0.heap.size T B' T' g r n m at_) (a1 : -9223372036854775808 ≤ a) (a2 : a ≤ 9223372036854775807) (b1 : -9223372036854775808 ≤ b) (b2 : b ≤ 9223372036854775807) :
    Calls Tryd.prog 15 #[.pointer (some ⟨g, 0, none⟩), .pointer (some ⟨r, 0, none⟩), .agg #[.int .i64 4, .int .i64 a, .int .i64 b]] w (StepPost w0 w w0.heap.size T B' T' g r n m) := by
  obtain ⟨hbk, hrf, hT, hT'⟩ := h
  have hsz := hbk.sizes
  have hBT := hbk.le
  have HE := hide hE
  have hB' : B' < T' := by obtain ⟨_, _, _, _, h, _⟩ := hrf; omega
  have ho := Bk.new w 30 #[.int .i64 4, .int .i64 a, .int .i64 b]
  have hbA : Below w.heap.size w (w.alloc (.cells #[.int .i64 4, .int .i64 a, .int .i64 b] 30)) := (Below.refl _ _).alloc (Nat.le_refl _) _
  have hrA := hrf.below hbA (Nat.le_refl _)
  have hkA := hbk.below hbA (Nat.le_refl _)
  have hwA := hw.trans (hbA.mono hw.size)
  have hsA : w.heap.size ≤ (w.alloc (.cells #[.int .i64 4, .int .i64 a, .int .i64 b] 30)).heap.size := hbA.size
  clear hE hbk hrf hbA hw
  go_enter Tryd.func15, Tryd.ntmps15
  go_wp2_with fail
  generalize hwa : w.alloc (.cells #[.int .i64 4, .int .i64 a, .int .i64 b] 30) = wa at *
  clear hwa
  refine (of_any w0.heap.size T g n m at_ a _ hkA).mono ?_
  rintro e w1 ⟨hl, rfl⟩
  obtain ⟨o0, o1, o2⟩ := op_cell ho
  have hr1 := hrA
  have hk1 := hkA
  have hw1 := hwA
  have HUN : Hid (∀ l k : Nat, l < n → k < n → at_.getD l 0 ≠ -1 → at_.getD l 0 = at_.getD k 0 → l = k) := hide fun l k hl hk => hkA.uniq hl hk
  obtain ⟨gw, cap, cur, q1, -⟩ := hr1.open_ hsz.1
  have c1 := q1.at_ (i := 1) (u := .int .i64 m) rfl
  clear hrA hkA ho hwA q1
  rcases hl with ⟨hin, rfl⟩ | ⟨i1, i2, hv, rfl⟩ | ⟨i1, i2, l, hl, hv, rfl⟩
  · unfold errV
    by_cases g1 : a < 0
    · clear hin
      have d1 : decide (a < 0) = true := decide_eq_true g1
      go_wp2_with fail
      go_region
      go_wp2_with fail
      refine (error_some 1 1 _ (HE.out.below hw1.drew (Nat.le_refl _)) true rfl).mono ?_
      rintro e w3 ⟨rfl, hb3⟩
      go_wp2_with fail
      go_ret
      exact ⟨rfl, ⟨_, Both.below (w := wa.drew) ⟨hk1.below (Below.refl _ _).drew (Nat.le_refl _), hr1.below (Below.refl _ _).drew (Nat.le_refl _), hT, by simp; omega⟩ hb3⟩, hw1.drew.trans (hb3.mono hw1.size)⟩
    · have g2 : (m : Int) ≤ a := by omega
      have d1 : decide (a < 0) = false := decide_eq_false g1
      have d2 : decide ((m : Int) ≤ a) = true := decide_eq_true g2
      clear hin
      go_wp2_with fail
      go_region
      go_wp2_with fail
      refine (error_some 1 1 _ (HE.out.below hw1.drew (Nat.le_refl _)) true rfl).mono ?_
      rintro e w3 ⟨rfl, hb3⟩
      go_wp2_with fail
      go_ret
      exact ⟨rfl, ⟨_, Both.below (w := wa.drew) ⟨hk1.below (Below.refl _ _).drew (Nat.le_refl _), hr1.below (Below.refl _ _).drew (Nat.le_refl _), hT, by simp; omega⟩ hb3⟩, hw1.drew.trans (hb3.mono hw1.size)⟩
  · have HV := hide hv
    clear hv
    have d1 : decide (a < 0) = false := decide_eq_false (by omega)
    have d2 : decide ((m : Int) ≤ a) = false := decide_eq_false (by omega)
    unfold errV
    go_wp2_with fail
    go_region
    go_wp2_with fail
    refine (refOf_any B' T' r n m at_ a _ (by exact hr1.below (Below.refl _ _).drew (Nat.le_refl _)) hsz.1 hsz.2.1).mono ?_
    rintro e w1 ⟨ho, rfl⟩
    rcases ho with ⟨-, rfl⟩ | ⟨k, hk, hko, -⟩
    · go_wp2_with fail
      refine (error_some 4 4 _ (HE.out.below hw1.drew (Nat.le_refl _)) true rfl).mono ?_
      rintro e w3 ⟨rfl, hb3⟩
      go_wp2_with fail
      go_ret
      exact ⟨rfl, ⟨_, Both.below (w := wa.drew) ⟨hk1.below (Below.refl _ _).drew (Nat.le_refl _), hr1.below (Below.refl _ _).drew (Nat.le_refl _), hT, by simp; omega⟩ hb3⟩, hw1.drew.trans (hb3.mono hw1.size)⟩
    · exact absurd hko (HV.out k hk)
  · have HV := hide hv
    clear hv
    have d1 : decide (a < 0) = false := decide_eq_false (by omega)
    have d2 : decide ((m : Int) ≤ a) = false := decide_eq_false (by omega)
    go_wp2_with fail
    go_region
    go_wp2_with fail
    refine (refOf_any B' T' r n m at_ a _ (by exact hr1.below (Below.refl _ _).drew (Nat.le_refl _)) hsz.1 hsz.2.1).mono ?_
    rintro e w1 ⟨ho, rfl⟩
    rcases ho with ⟨hno, -⟩ | ⟨k, hk, hko, rfl⟩
    · exact absurd HV.out (hno l hl)
    · obtain rfl : k = l := HUN.out k l hk hl (by rw [hko]; omega) (hko.trans HV.out.symm)
      have d5 : ((k : Int) == (k : Int)) = true := by simp
      clear hko
      go_wp2_with fail
      go_ret
      exact ⟨rfl, ⟨_, Both.below (w := wa) ⟨hk1, hr1, hT, by omega⟩ (Below.refl _ _).drew⟩, hw1.drew⟩

set_option maxRecDepth 100000 in
set_option maxHeartbeats 2000000 in
theorem step_live (hE : ErrT w0) (hw : Below w0.heap.size w0 w) (h : Both w w0.heap.size T B' T' g r n m at_) (a1 : -9223372036854775808 ≤ a) (a2 : a ≤ 9223372036854775807) (b1 : -9223372036854775808 ≤ b) (b2 : b ≤ 9223372036854775807)
    (kd : Int) (e1 : (kd == 1) = false) (e2 : (kd == 2) = false) (e3 : (kd == 3) = false) (e4 : (kd == 4) = false) :
    Calls Tryd.prog 15 #[.pointer (some ⟨g, 0, none⟩), .pointer (some ⟨r, 0, none⟩), .agg #[.int .i64 kd, .int .i64 a, .int .i64 b]] w (StepPost w0 w w0.heap.size T B' T' g r n m) := by
  obtain ⟨hbk, hrf, hT, hT'⟩ := h
  have hsz := hbk.sizes
  have hBT := hbk.le
  have HE := hide hE
  have hB' : B' < T' := by obtain ⟨_, _, _, _, h, _⟩ := hrf; omega
  have ho := Bk.new w 30 #[.int .i64 kd, .int .i64 a, .int .i64 b]
  have hbA : Below w.heap.size w (w.alloc (.cells #[.int .i64 kd, .int .i64 a, .int .i64 b] 30)) := (Below.refl _ _).alloc (Nat.le_refl _) _
  have hrA := hrf.below hbA (Nat.le_refl _)
  have hkA := hbk.below hbA (Nat.le_refl _)
  have hwA := hw.trans (hbA.mono hw.size)
  have hsA : w.heap.size ≤ (w.alloc (.cells #[.int .i64 kd, .int .i64 a, .int .i64 b] 30)).heap.size := hbA.size
  clear hE hbk hrf hbA hw
  go_enter Tryd.func15, Tryd.ntmps15
  go_wp2_with fail
  generalize hwa : w.alloc (.cells #[.int .i64 kd, .int .i64 a, .int .i64 b] 30) = wa at *
  clear hwa
  obtain ⟨o0, o1, o2⟩ := op_cell ho
  have hr1 := hrA
  have hk1 := hkA
  have hw1 := hwA
  obtain ⟨gw, cap, cur, q1, -⟩ := hr1.open_ hsz.1
  have c1 := q1.at_ (i := 1) (u := .int .i64 m) rfl
  clear hrA hkA ho hwA q1
  by_cases hrg : a < 0 ∨ b < a ∨ (m : Int) < b
  · refine (live_range w0.heap.size T g n m at_ a b _ hk1 hrg).mono ?_
    rintro e w1 ⟨rfl, rfl⟩
    unfold errV
    by_cases g1 : a < 0
    · clear hrg
      have d1 : decide (a < 0) = true := decide_eq_true g1
      go_wp2_with fail
      go_region
      go_wp2_with fail
      refine (error_some 1 1 _ (HE.out.below hw1.drew (Nat.le_refl _)) true rfl).mono ?_
      rintro e w3 ⟨rfl, hb3⟩
      go_wp2_with fail
      go_ret
      exact ⟨rfl, ⟨_, Both.below (w := wa.drew) ⟨hk1.below (Below.refl _ _).drew (Nat.le_refl _), hr1.below (Below.refl _ _).drew (Nat.le_refl _), hT, by simp; omega⟩ hb3⟩, hw1.drew.trans (hb3.mono hw1.size)⟩
    have d1 : decide (a < 0) = false := decide_eq_false g1
    by_cases g2 : b < a
    · clear hrg
      have d2 : decide (b < a) = true := decide_eq_true g2
      go_wp2_with fail
      go_region
      go_wp2_with fail
      refine (error_some 1 1 _ (HE.out.below hw1.drew (Nat.le_refl _)) true rfl).mono ?_
      rintro e w3 ⟨rfl, hb3⟩
      go_wp2_with fail
      go_ret
      exact ⟨rfl, ⟨_, Both.below (w := wa.drew) ⟨hk1.below (Below.refl _ _).drew (Nat.le_refl _), hr1.below (Below.refl _ _).drew (Nat.le_refl _), hT, by simp; omega⟩ hb3⟩, hw1.drew.trans (hb3.mono hw1.size)⟩
    have d2 : decide (b < a) = false := decide_eq_false g2
    have g3 : (m : Int) < b := by omega
    have d3 : decide ((m : Int) < b) = true := decide_eq_true g3
    clear hrg
    go_wp2_with fail
    go_region
    go_wp2_with fail
    refine (error_some 1 1 _ (HE.out.below hw1.drew (Nat.le_refl _)) true rfl).mono ?_
    rintro e w3 ⟨rfl, hb3⟩
    go_wp2_with fail
    go_ret
    exact ⟨rfl, ⟨_, Both.below (w := wa.drew) ⟨hk1.below (Below.refl _ _).drew (Nat.le_refl _), hr1.below (Below.refl _ _).drew (Nat.le_refl _), hT, by simp; omega⟩ hb3⟩, hw1.drew.trans (hb3.mono hw1.size)⟩
  obtain ⟨x, rfl⟩ := Int.eq_ofNat_of_zero_le (show 0 ≤ a by omega)
  obtain ⟨y, rfl⟩ := Int.eq_ofNat_of_zero_le (show 0 ≤ b by omega)
  have hxy : x ≤ y := by omega
  have hym : y ≤ m := by omega
  clear hrg
  refine (live_ok w0.heap.size T g n m at_ x y _ hk1 hxy hym).mono ?_
  rintro e w1 ⟨rfl, rfl⟩
  have hcl := cnt_le at_ x y
  have hcn : cnt at_ x y ≤ 256 := by have := hk1.len; omega
  have d1 : decide ((x : Int) < 0) = false := decide_eq_false (by omega)
  have d2 : decide ((y : Int) < (x : Int)) = false := decide_eq_false (by omega)
  have d2' : decide (y < x) = false := decide_eq_false (by omega)
  have d3 : decide ((m : Int) < (y : Int)) = false := decide_eq_false (by omega)
  have d3' : decide (m < y) = false := decide_eq_false (by omega)
  have HL := fun w h => refLive_any B' T' r n m at_ x y w h hsz.1 hsz.2.1
  generalize cnt at_ x y = c at *
  have HLL := hide HL
  have d5 : ((c : Int) == (c : Int)) = true := by simp
  clear hcl HL
  go_wp2_with fail
  go_region
  go_wp2_with fail
  refine (HLL.out _ (by exact hr1.below (Below.refl _ _).drew (Nat.le_refl _))).mono ?_
  rintro e w1 ⟨rfl, rfl⟩
  go_wp2_with fail
  go_ret
  exact ⟨rfl, ⟨_, Both.below (w := wa) ⟨hk1, hr1, hT, by omega⟩ (Below.refl _ _).drew⟩, hw1.drew⟩

theorem step_any (kd : Int) (hE : ErrT w0) (hw : Below w0.heap.size w0 w) (h : Both w w0.heap.size T B' T' g r n m at_) (a1 : -9223372036854775808 ≤ a) (a2 : a ≤ 9223372036854775807) (b1 : -9223372036854775808 ≤ b) (b2 : b ≤ 9223372036854775807) :
    Calls Tryd.prog 15 #[.pointer (some ⟨g, 0, none⟩), .pointer (some ⟨r, 0, none⟩), .agg #[.int .i64 kd, .int .i64 a, .int .i64 b]] w (StepPost w0 w w0.heap.size T B' T' g r n m) := by
  by_cases h1 : kd = 1
  · subst h1; exact step_set w0 w T B' T' g r n m at_ a b hE hw h a1 a2 b1 b2
  by_cases h2 : kd = 2
  · subst h2; exact step_drop w0 w T B' T' g r n m at_ a b hE hw h a1 a2 b1 b2
  by_cases h3 : kd = 3
  · subst h3; exact step_at w0 w T B' T' g r n m at_ a b hE hw h a1 a2 b1 b2
  by_cases h4 : kd = 4
  · subst h4; exact step_of w0 w T B' T' g r n m at_ a b hE hw h a1 a2 b1 b2
  exact step_live w0 w T B' T' g r n m at_ a b hE hw h a1 a2 b1 b2 kd (by simpa using h1) (by simpa using h2) (by simpa using h3) (by simpa using h4)
end
end Go.Proofs.YthaoiilghphbiaaDoor.BookW
