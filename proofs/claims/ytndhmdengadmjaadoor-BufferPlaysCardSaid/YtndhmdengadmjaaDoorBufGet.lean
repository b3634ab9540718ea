/- The walk of Buffer.Get. -/
import Derived.Test.YtndhmdengadmjaaDoorBufE
import Derived.Test.YtndhmdengadmjaaDoorStill
set_option linter.unusedVariables false
namespace Go.Proofs.YtndhmdengadmjaaDoor.BufW
open Go.RowKit I64 IdMap Ring BufP

theorem fE_lk {E : List (Nat × It)} {k : Int} {n : Nat} (h : fE E k = some n) : ∃ x, lk (E.map (·.2)) k = some x ∧ (n, x) ∈ E := by
  induction E with
  | nil => cases h
  | cons e E ih =>
    rw [fE_cons] at h
    rw [List.map_cons, look_cons]
    by_cases he : e.2.1 = k
    · rw [if_pos he] at h
      injection h with h
      exact ⟨e.2, if_pos he, by rw [← h]; exact List.mem_cons_self ..⟩
    · rw [if_neg he] at h
      rw [if_neg he]
      obtain ⟨x, h1, h2⟩ := ih h
      exact ⟨x, h1, List.mem_cons_of_mem _ h2⟩

/-- bytes.Clone; the copy is the caller's. -/
theorem clone_own (A : Option Addr) (l : List UInt8) (n c : Nat) (w : World) (hn : n = l.length) (hm : n ≤ 140737488351232) (hr : Rd w A (u8v l)) :
    Calls Tryd.prog 28 #[.slice A n c] w fun e w' => ∃ D c', e = .returned (.slice D n c') ∧ (∀ B, Data w' B l D c') ∧ Below w.heap.size w w' ∧ (∀ ad, D = some ad → w.heap.size ≤ ad.block) ∧ w'.ownsRow w.heap.size 5 1 (.slice D n c') n (u8v l) := by
  have q22 : ∀ (w : World) (a : Option Addr) (n c n' c' : Nat), (binOp .eql 23 (.slice a n c) (.slice none n' c')).run Tryd.prog w = .ok (.bool a.isNone) w := fun w a n c n' c' => Lib.run_eql_slice_nil w _ _ a n c n' c' Tryd.underlying23
  cases A with
  | none =>
    have hl := hr.none_
    have hl0 : l = [] := by
      cases l with
      | nil => rfl
      | cons a l => simp [u8v] at hl
    subst hl0
    subst hn
    have HN := hide hr
    go_enter Tryd.func28, Tryd.ntmps28
    go_wp2_with fail
    go_ret
    exact ⟨none, 0, rfl, fun B => ⟨Nat.le_refl _, by simp, .inl rfl, .inl rfl⟩, Below.refl _ _, fun ad e => (by cases e), ⟨rfl, .inl ⟨rfl, rfl⟩⟩⟩
  | some ad =>
    have HN := hide hn
    have HM := hide hm
    have h0 := own_empty w
    have hr' := hr.alloc (.cells #[] 5)
    clear hn hm hr
    go_enter Tryd.func28, Tryd.ntmps28
    go_wp2_with (first | (refine wpList_app _ rfl _ _ rfl w.heap.size _ 0 [] rfl h0 _ _ _ l rfl HN.out hr' (by have := HM.out; omega) (by simp) ?_; intro A' c' w1 hc1 hw1 hb1) | fail)
    go_ret
    rw [List.nil_append] at hw1
    rw [Nat.zero_add] at hw1 hc1
    refine ⟨A', c', rfl, fun B => ⟨by rw [← HN.out]; exact hc1, by rw [← HN.out]; exact HM.out, .inr (Dt.of_own hw1), Rd.of_own hw1⟩, ?_, fun ad e => ?_, hw1⟩
    · exact ((Below.refl _ _).alloc (Nat.le_refl _) _).trans hb1
    · subst e
      exact (hw1.lt _ rfl).1

/-- What Get says. -/
def GetPost (w : World) (L : List It) (y : Int) (e : Ending) (w' : World) : Prop :=
  Below w.heap.size w w' ∧ ((y < 0 ∧ e = .returned (.tuple #[.slice none 0 0, .bool false, errV 1])) ∨ (0 ≤ y ∧ lk L y = none ∧ e = .returned (.tuple #[.slice none 0 0, .bool false, errV 4])) ∨
    (0 ≤ y ∧ ∃ x D c, lk L y = some x ∧ e = .returned (.tuple #[.slice D x.2.2.length c, .bool x.2.1, .nilIface]) ∧ (∀ B, Data w' B x.2.2 D c) ∧ (∀ ad, D = some ad → w.heap.size ≤ ad.block) ∧ w'.ownsRow w.heap.size 5 1 (.slice D x.2.2.length c) x.2.2.length (u8v x.2.2)))

set_option maxHeartbeats 2000000 in
theorem get_any (B g : Nat) (most : Int) (L : List It) (y : Int) (w : World) (h : BufAt w B g most L) (hy1 : -9223372036854775808 ≤ y) (hy2 : y ≤ 9223372036854775807) :
    Calls Tryd.prog 17 #[ptr g, .int .i64 y] w (GetPost w L y) := by
  obtain ⟨r, m, E, nx, pv, hg, hmB, hR, hM, hE, hO, hLm, h16, hLx⟩ := h
  replace hM := mapE hM
  by_cases hneg : y < 0
  · have d1 : decide (y < 0) = true := decide_eq_true hneg
    have HN := hide hneg
    clear hneg hg hR hM hE hO hLm h16 hLx hmB
    unfold ptr
    go_enter Tryd.func17, Tryd.ntmps17
    go_wp2_with fail
    go_ret3
    exact ⟨Below.refl _ _, .inl ⟨HN.out, rfl⟩⟩
  have d1 : decide (y < 0) = false := decide_eq_false hneg
  have HN := hide (Int.not_lt.1 hneg)
  have g2 := hg.at_ (i := 2) (u := .map (some m)) rfl
  clear hneg
  cases hfe : fE E y with
  | none =>
    have hlk := lookup_none hM hy1 hy2 hfe
    have HL : Hid (lk L y = none) := hide (by rw [← hE]; exact fE_none.1 hfe)
    clear hg hR hM hE hO hLm h16 hLx hmB hfe
    unfold ptr
    go_enter Tryd.func17, Tryd.ntmps17
    go_wp2_with fail
    go_ret3
    exact ⟨Below.refl _ _, .inr (.inl ⟨HN.out, HL.out, rfl⟩)⟩
  | some n =>
    have hlk := lookup_some hM hy1 hy2 hfe
    obtain ⟨x, hx, hmem⟩ := fE_lk hfe
    rw [hE] at hx
    obtain ⟨-, A, c, hk, hd⟩ := hR.ents _ hmem
    have HC := hide (clone_own A x.2.2 x.2.2.length c w.drew rfl hd.2.1 hd.2.2.2)
    have c1 := hk.at_ (i := 1) (u := .bool x.2.1) rfl
    have c2 := hk.at_ (i := 2) (u := .slice A x.2.2.length c) rfl
    have HX := hide hx
    have hkl := hk.lt
    have HK := hide hk
    obtain ⟨x0, x1, ld⟩ := x
    simp only at HC c1 c2
    clear hg hR hM hE hO hLm h16 hLx hmB hfe hx hmem hd hk
    unfold ptr
    go_enter Tryd.func17, Tryd.ntmps17
    go_wp2_with fail
    go_region_with (first
      | (go_at_call 28
         refine HC.out.mono ?_
         rintro e w1 ⟨D, c', rfl, hD, hb, hf, hown⟩
         have e1 : w1.cell? ⟨n, 1, none⟩ = some (.bool x1) := (hb.cell hkl).trans c1
         have HD := hide hD
         have HB := hide hb
         have HF := hide hf
         have HOWN := hide hown
         clear hD hb hf hown))
    all_goals go_wp2_with fail
    all_goals go_ret3
    all_goals exact ⟨(Below.refl _ _).drew.trans HB.out, .inr (.inr ⟨HN.out, (x0, x1, ld), D, c', HX.out, rfl, HD.out, HF.out, HOWN.out⟩)⟩
end Go.Proofs.YtndhmdengadmjaaDoor.BufW
