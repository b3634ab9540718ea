/- The walks of book.Set, Drop, look, At, Of, Live: a book by where each lba lies. -/
import Derived.Test.YthaoiilghphbiaaDoorBookM
set_option linter.unusedVariables false
namespace Go.Proofs.YthaoiilghphbiaaDoor.BookP
open FenP

section
variable {n m : Nat} {at_ of live : List Int}
theorem of_iff (h : Inv n m at_ of live) {l p : Nat} (hl : l < n) (hp : p < m) : of.getD p 0 = (l : Int) ↔ at_.getD l 0 = (p : Int) := by
  constructor
  · intro e
    rcases h.a2 p hp with g | ⟨_, _, g⟩
    · omega
    · rwa [e, Int.toNat_natCast] at g
  · intro e
    rcases h.a1 l hl with g | ⟨_, _, g⟩
    · omega
    · rwa [e, Int.toNat_natCast] at g
theorem free_iff (h : Inv n m at_ of live) {p : Nat} (hp : p < m) : of.getD p 0 = -1 ↔ ∀ l, l < n → at_.getD l 0 ≠ (p : Int) := by
  constructor
  · intro e l hl h2
    have := (of_iff h hl hp).2 h2
    omega
  · intro e
    rcases h.a2 p hp with g | ⟨g1, g2, g3⟩
    · exact g
    · exact absurd g3 (e _ (by omega))
end
/-- What Set answers: 0 nothing is wrong, 1 out of range, 10 another one lies there. -/
def setCode (n m : Nat) (at_ : List Int) (lba place : Int) : Int :=
  if 0 ≤ lba ∧ lba < n ∧ 0 ≤ place ∧ place < m then (if (List.range n).any (fun k => decide (at_.getD k 0 = place ∧ (k : Int) ≠ lba)) then 10 else 0) else 1
theorem setCode_range {n m : Nat} {at_ : List Int} {lba place : Int} (h : ¬ (0 ≤ lba ∧ lba < n ∧ 0 ≤ place ∧ place < m)) : setCode n m at_ lba place = 1 := by
  unfold setCode
  rw [if_neg h]
theorem setCode_state {n m : Nat} {at_ : List Int} {lba place : Int} (h : 0 ≤ lba ∧ lba < n ∧ 0 ≤ place ∧ place < m) {k : Nat} (hk : k < n) (h1 : at_.getD k 0 = place) (h2 : (k : Int) ≠ lba) : setCode n m at_ lba place = 10 := by
  unfold setCode
  rw [if_pos h, if_pos]
  exact List.any_eq_true.2 ⟨k, List.mem_range.2 hk, decide_eq_true ⟨h1, h2⟩⟩
theorem setCode_ok {n m : Nat} {at_ : List Int} {lba place : Int} (h : 0 ≤ lba ∧ lba < n ∧ 0 ≤ place ∧ place < m) (h1 : ∀ k : Nat, k < n → at_.getD k 0 = place → (k : Int) = lba) : setCode n m at_ lba place = 0 := by
  unfold setCode
  rw [if_pos h, if_neg]
  intro ha
  obtain ⟨k, hk, hd⟩ := List.any_eq_true.1 ha
  obtain ⟨h2, h3⟩ := of_decide_eq_true hd
  exact h3 (h1 k (List.mem_range.1 hk) h2)
end Go.Proofs.YthaoiilghphbiaaDoor.BookP
namespace Go.Proofs.YthaoiilghphbiaaDoor.BookW
open Go.RowKit FenP BookP

attribute [local irreducible] lb fillA setCode

/-- An error's value. -/
def errV (k : Int) : Value := .iface 35 (.int .i64 k)

def LookPost (l : List Int) (k : Int) (e : Ending) : Prop :=
  (¬ (0 ≤ k ∧ k < l.length) ∧ e = .returned (.tuple #[.int .i64 0, errV 1])) ∨
  (0 ≤ k ∧ k < l.length ∧ l.getD k.toNat 0 = -1 ∧ e = .returned (.tuple #[.int .i64 0, errV 4])) ∨
  (0 ≤ k ∧ k < l.length ∧ l.getD k.toNat 0 ≠ -1 ∧ e = .returned (.tuple #[.int .i64 (l.getD k.toNat 0), .nilIface]))

theorem look_any (b n : Nat) (l : List Int) (k : Int) (w : World) (hn : l.length = n) (hb : Bk w b 3 (i64v l).toArray) :
    Calls Tryd.prog 35 #[.slice (some ⟨b, 0, none⟩) n n, .int .i64 k] w fun e w' => LookPost l k e ∧ w = w' := by
  by_cases hin : 0 ≤ k ∧ k < n
  rotate_left
  · go_enter Tryd.func35, Tryd.ntmps35
    go_wp2_with fail
    refine (in_any k n _ false (by simpa using hin)).mono ?_
    rintro e w' ⟨rfl, rfl⟩
    go_wp2_with fail
    go_ret2
    exact ⟨.inl ⟨by rw [hn]; exact hin, rfl⟩, rfl⟩
  obtain ⟨h0, h1⟩ := hin
  have hc := hb.at_ (i64v_at l k.toNat (by omega))
  have HN := hide hn
  obtain ⟨v, hv⟩ : ∃ v, v = l.getD k.toNat 0 := ⟨_, rfl⟩
  rw [← hv] at hc
  have HV := hide hv
  clear hv hn
  by_cases hm1 : v = -1
  · subst hm1
    go_enter Tryd.func35, Tryd.ntmps35
    go_wp2_with fail
    refine (in_any k n _ true (by simp; omega)).mono ?_
    rintro e w' ⟨rfl, rfl⟩
    go_wp2_with fail
    go_ret2
    exact ⟨.inr (.inl ⟨h0, by rw [HN.out]; exact h1, HV.out.symm, rfl⟩), rfl⟩
  · have hd : (v == -1) = false := by simpa using hm1
    go_enter Tryd.func35, Tryd.ntmps35
    go_wp2_with fail
    refine (in_any k n _ true (by simp; omega)).mono ?_
    rintro e w' ⟨rfl, rfl⟩
    go_wp2_with fail
    go_ret2
    exact ⟨.inr (.inr ⟨h0, by rw [HN.out]; exact h1, by rw [← HV.out]; exact hm1, by rw [← HV.out]; rfl⟩), rfl⟩

theorem at_any (B T g n m : Nat) (at_ : List Int) (k : Int) (w : World) (h : BookAt w B T g n m at_) :
    Calls Tryd.prog 10 #[.pointer (some ⟨g, 0, none⟩), .int .i64 k] w fun e w' => LookPost at_ k e ∧ w = w' := by
  obtain ⟨of, live, ga, go, gl, hi, hn, hm, b1, b2, b3, b4, -⟩ := h
  have c0 := b1.at_ (i := 0) (u := .slice (some ⟨ga, 0, none⟩) n n) rfl
  have HA := hide hi.hat
  clear hi b1 b3 b4
  go_enter Tryd.func10, Tryd.ntmps10
  go_wp2_with fail
  refine (look_any ga n at_ k _ HA.out b2).mono ?_
  rintro e w' ⟨hp, rfl⟩
  rcases hp with ⟨g1, rfl⟩ | ⟨g1, g2, g3, rfl⟩ | ⟨g1, g2, g3, he⟩
  · go_wp2_with fail
    go_ret2
    exact ⟨.inl ⟨g1, rfl⟩, rfl⟩
  · have H := hide g3
    clear g3
    go_wp2_with fail
    go_ret2
    exact ⟨.inr (.inl ⟨g1, g2, H.out, rfl⟩), rfl⟩
  · obtain ⟨v, hv⟩ : ∃ v, v = at_.getD k.toNat 0 := ⟨_, rfl⟩
    rw [← hv] at g3 he
    subst he
    have H := hide g3
    have HV := hide hv
    clear g3 hv
    go_wp2_with fail
    go_ret2
    exact ⟨.inr (.inr ⟨g1, g2, by rw [← HV.out]; exact H.out, by rw [← HV.out]; rfl⟩), rfl⟩

def OfPost (n m : Nat) (at_ : List Int) (k : Int) (e : Ending) : Prop :=
  (¬ (0 ≤ k ∧ k < m) ∧ e = .returned (.tuple #[.int .i64 0, errV 1])) ∨
  (0 ≤ k ∧ k < m ∧ (∀ l, l < n → at_.getD l 0 ≠ k) ∧ e = .returned (.tuple #[.int .i64 0, errV 4])) ∨
  (0 ≤ k ∧ k < m ∧ ∃ l, l < n ∧ at_.getD l 0 = k ∧ e = .returned (.tuple #[.int .i64 (l : Int), .nilIface]))

theorem of_any (B T g n m : Nat) (at_ : List Int) (k : Int) (w : World) (h : BookAt w B T g n m at_) :
    Calls Tryd.prog 11 #[.pointer (some ⟨g, 0, none⟩), .int .i64 k] w fun e w' => OfPost n m at_ k e ∧ w = w' := by
  obtain ⟨of, live, ga, go, gl, hi, hn, hm, b1, b2, b3, b4, -⟩ := h
  have c1 := b1.at_ (i := 1) (u := .slice (some ⟨go, 0, none⟩) m m) rfl
  have HI := hide hi
  clear hi b1 b2 b4
  go_enter Tryd.func11, Tryd.ntmps11
  go_wp2_with fail
  refine (look_any go m of k _ HI.out.hof b3).mono ?_
  rintro e w' ⟨hp, rfl⟩
  rcases hp with ⟨g1, rfl⟩ | ⟨g1, g2, g3, rfl⟩ | ⟨g1, g2, g3, rfl⟩
  · go_wp2_with fail
    go_ret2
    exact ⟨.inl ⟨by rw [HI.out.hof] at g1; exact g1, rfl⟩, rfl⟩
  · have H := hide g3
    have H2 := hide g2
    clear g3 g2
    go_wp2_with fail
    go_ret2
    refine ⟨.inr (.inl ⟨g1, by have := H2.out; rw [HI.out.hof] at this; exact this, ?_, rfl⟩), rfl⟩
    have h2 := H2.out
    rw [HI.out.hof] at h2
    have := (free_iff HI.out (p := k.toNat) (by omega)).1 H.out
    rwa [show ((k.toNat : Nat) : Int) = k by omega] at this
  · have H := hide g3
    have H2 := hide g2
    clear g3 g2
    go_wp2_with fail
    go_ret2
    have h2 := H2.out
    rw [HI.out.hof] at h2
    refine ⟨.inr (.inr ⟨g1, h2, ?_⟩), rfl⟩
    rcases HI.out.a2 k.toNat (by omega) with q | ⟨q1, q2, q3⟩
    · exact absurd q H.out
    · refine ⟨(of.getD k.toNat 0).toNat, by omega, by rw [q3]; omega, ?_⟩
      rw [show ((of.getD k.toNat 0).toNat : Int) = of.getD k.toNat 0 by omega]
      rfl

theorem live_range (B T g n m : Nat) (at_ : List Int) (a b : Int) (w : World) (h : BookAt w B T g n m at_) (hr : a < 0 ∨ b < a ∨ (m : Int) < b) :
    Calls Tryd.prog 17 #[.pointer (some ⟨g, 0, none⟩), .int .i64 a, .int .i64 b] w fun e w' => e = .returned (.tuple #[.int .i64 0, errV 1]) ∧ w = w' := by
  obtain ⟨of, live, ga, go, gl, hi, hn, hm, b1, b2, b3, b4, -⟩ := h
  have c1 := b1.at_ (i := 1) (u := .slice (some ⟨go, 0, none⟩) m m) rfl
  clear hi b1 b2 b4
  by_cases h1 : a < 0
  · go_enter Tryd.func17, Tryd.ntmps17
    go_wp2
    go_ret2
    exact ⟨rfl, rfl⟩
  by_cases h2 : b < a
  · go_enter Tryd.func17, Tryd.ntmps17
    go_wp2
    go_ret2
    exact ⟨rfl, rfl⟩
  have h3 : (m : Int) < b := by omega
  go_enter Tryd.func17, Tryd.ntmps17
  go_wp2
  go_ret2
  exact ⟨rfl, rfl⟩

theorem live_ok (B T g n m : Nat) (at_ : List Int) (a b : Nat) (w : World) (h : BookAt w B T g n m at_) (hab : a ≤ b) (hb : b ≤ m) :
    Calls Tryd.prog 17 #[.pointer (some ⟨g, 0, none⟩), .int .i64 a, .int .i64 b] w fun e w' => e = .returned (.tuple #[.int .i64 (cnt at_ a b : Nat), .nilIface]) ∧ w = w' := by
  obtain ⟨of, live, ga, go, gl, hi, hn, hm, b1, b2, b3, b4, -⟩ := h
  have c1 := b1.at_ (i := 1) (u := .slice (some ⟨go, 0, none⟩) m m) rfl
  have HI := hide hi
  have hlc := live_cnt hi a (b - a) (by omega)
  rw [show a + (b - a) = b by omega] at hlc
  have hba := sumTo_bounds (occ of) (occ_bounds of) 0 a
  have hbb := sumTo_bounds (occ of) (occ_bounds of) 0 b
  simp only [Nat.zero_add, sumTo] at hba hbb
  have hmm := hi.hm
  have x0 : 0 ≤ sumTo (occ of) a := by omega
  have x1 : sumTo (occ of) a ≤ 4096 := by omega
  have y0 : 0 ≤ sumTo (occ of) b := by omega
  have y1 : sumTo (occ of) b ≤ 4096 := by omega
  have HC := hide hlc
  have HSA := fun w h1 h2 => below_any g m a (occ of) (.slice (some ⟨ga, 0, none⟩) n n) (.slice (some ⟨go, 0, none⟩) m m) gl live w h1 h2 HI.out.hlive HI.out.hm (by omega) HI.out.tree (occ_bounds of)
  have HSB := fun w h1 h2 => below_any g m b (occ of) (.slice (some ⟨ga, 0, none⟩) n n) (.slice (some ⟨go, 0, none⟩) m m) gl live w h1 h2 HI.out.hlive HI.out.hm (by omega) HI.out.tree (occ_bounds of)
  generalize sumTo (occ of) a = X at *
  generalize sumTo (occ of) b = Y at *
  have HA := hide HSA
  have HB := hide HSB
  clear hi b2 hlc hba hbb HSA HSB
  go_enter Tryd.func17, Tryd.ntmps17
  go_wp2_with fail
  refine (HB.out _ b1 b4).mono ?_
  rintro e w' ⟨rfl, rfl⟩
  go_wp2_with fail
  refine (HA.out _ b1 b4).mono ?_
  rintro e w' ⟨rfl, rfl⟩
  go_wp2_with fail
  go_ret2
  exact ⟨by rw [← HC.out]; rfl, rfl⟩
end Go.Proofs.YthaoiilghphbiaaDoor.BookW
