/- The walks of book.Set and Drop. -/
import Derived.Test.YthaoiilghphbiaaDoorBookS
set_option linter.unusedVariables false
namespace Go.Proofs.YthaoiilghphbiaaDoor.BookW
open Go.RowKit FenP BookP

attribute [local irreducible] lb fillA setCode

def SetPost (w : World) (B T g n m : Nat) (at_ : List Int) (lba place : Int) (e : Ending) (w' : World) : Prop :=
  Kept B T w w' ∧ ((e = .returned .nilIface ∧ setCode n m at_ lba place = 0 ∧ BookAt w' B T g n m (at_.set lba.toNat place)) ∨
    (∃ c : Int, e = .returned (errV c) ∧ setCode n m at_ lba place = c ∧ (c = 1 ∨ c = 10) ∧ BookAt w' B T g n m at_))

theorem set_range (B T g n m : Nat) (at_ : List Int) (lba place : Int) (w : World) (h : BookAt w B T g n m at_) (hr : ¬ (0 ≤ lba ∧ lba < n ∧ 0 ≤ place ∧ place < m)) :
    Calls Tryd.prog 9 #[.pointer (some ⟨g, 0, none⟩), .int .i64 lba, .int .i64 place] w fun e w' => e = .returned (errV 1) ∧ w = w' := by
  obtain ⟨of, live, ga, go, gl, hi, hn, hm, b1, b2, b3, b4, -⟩ := h
  have c0 := b1.at_ (i := 0) (u := .slice (some ⟨ga, 0, none⟩) n n) rfl
  have c1 := b1.at_ (i := 1) (u := .slice (some ⟨go, 0, none⟩) m m) rfl
  clear hi b1 b2 b3 b4
  by_cases h1 : 0 ≤ lba ∧ lba < n
  · go_enter Tryd.func9, Tryd.ntmps9
    go_wp2_with fail
    refine (in_any lba n _ true (by simp; omega)).mono ?_
    rintro e w' ⟨rfl, rfl⟩
    go_wp2_with fail
    refine (in_any place m _ false (by simp; omega)).mono ?_
    rintro e w' ⟨rfl, rfl⟩
    go_wp2_with fail
    go_ret
    exact ⟨rfl, rfl⟩
  · go_enter Tryd.func9, Tryd.ntmps9
    go_wp2_with fail
    refine (in_any lba n _ false (by simp; omega)).mono ?_
    rintro e w' ⟨rfl, rfl⟩
    go_wp2_with fail
    go_ret
    exact ⟨rfl, rfl⟩

theorem set_some (B T g n m l p : Nat) (at_ : List Int) (w : World) (h : BookAt w B T g n m at_) (hl : l < n) (hp : p < m) (o : Int) (k : Nat) (hk : k < n) (ho : at_.getD k 0 = (p : Int)) :
    Calls Tryd.prog 9 #[.pointer (some ⟨g, 0, none⟩), .int .i64 l, .int .i64 p] w fun e w' => e = .returned (if k = l then .nilIface else errV 10) ∧ w = w' := by
  obtain ⟨of, live, ga, go, gl, hi, hn, hm, b1, b2, b3, b4, -⟩ := h
  have c0 := b1.at_ (i := 0) (u := .slice (some ⟨ga, 0, none⟩) n n) rfl
  have c1 := b1.at_ (i := 1) (u := .slice (some ⟨go, 0, none⟩) m m) rfl
  have hc := b3.at_ (i64v_at of p (by rw [hi.hof]; omega))
  rw [(of_iff hi hk hp).2 ho] at hc
  clear hi b1 b2 b3 b4 ho
  by_cases he : k = l
  · subst he
    have hd : ((k : Int) == (k : Int)) = true := by simp
    go_enter Tryd.func9, Tryd.ntmps9
    go_wp2_with fail
    refine (in_any k n _ true (by simp; omega)).mono ?_
    rintro e w' ⟨rfl, rfl⟩
    go_wp2_with fail
    refine (in_any p m _ true (by simp; omega)).mono ?_
    rintro e w' ⟨rfl, rfl⟩
    go_wp2_with fail
    go_ret
    exact ⟨rfl, rfl⟩
  · have hd : ((k : Int) == (l : Int)) = false := by simp; omega
    have hd2 : ((k : Int) != -1) = true := by simp
    go_enter Tryd.func9, Tryd.ntmps9
    go_wp2_with fail
    refine (in_any l n _ true (by simp; omega)).mono ?_
    rintro e w' ⟨rfl, rfl⟩
    go_wp2_with fail
    refine (in_any p m _ true (by simp; omega)).mono ?_
    rintro e w' ⟨rfl, rfl⟩
    go_wp2_with fail
    go_ret
    exact ⟨rfl, rfl⟩

theorem set_free (B T g n m l p : Nat) (at_ : List Int) (w : World) (h : BookAt w B T g n m at_) (hl : l < n) (hp : p < m) (ho : ∀ k, k < n → at_.getD k 0 ≠ (p : Int)) :
    Calls Tryd.prog 9 #[.pointer (some ⟨g, 0, none⟩), .int .i64 l, .int .i64 p] w fun e w' => e = .returned .nilIface ∧ BookAt w' B T g n m (at_.set l p) ∧ Kept B T w w' := by
  have H0 := hide h
  have HO := hide ho
  obtain ⟨of, live, ga, go, gl, hi, hn, hm, b1, b2, b3, b4, -⟩ := h
  have c0 := b1.at_ (i := 0) (u := .slice (some ⟨ga, 0, none⟩) n n) rfl
  have c1 := b1.at_ (i := 1) (u := .slice (some ⟨go, 0, none⟩) m m) rfl
  have hc := b3.at_ (i64v_at of p (by rw [hi.hof]; omega))
  rw [(free_iff hi hp).2 ho] at hc
  have HL := hide hi.hat
  clear hi b1 b2 b3 b4 ho
  have hd : ((-1 : Int) == (l : Int)) = false := by simp
  go_enter Tryd.func9, Tryd.ntmps9
  go_wp2_with fail
  refine (in_any l n _ true (by simp; omega)).mono ?_
  rintro e w' ⟨rfl, rfl⟩
  go_wp2_with fail
  refine (in_any p m _ true (by simp; omega)).mono ?_
  rintro e w' ⟨rfl, rfl⟩
  go_wp2_with fail
  refine (clear_any B T g n m l at_ _ H0.out hl).mono ?_
  rintro e w1 ⟨rfl, h1, hb1⟩
  clear c0 c1 hc
  obtain ⟨of, live, ga, go, gl, hi, hn, hm, b1, b2, b3, b4, B1, B2, B3, B4, ne1, ne2, ne3⟩ := h1
  have h0 : (at_.set l (-1)).getD l 0 = -1 := BookP.getD_set_eq _ _ _ (by rw [HL.out]; exact hl)
  have h2 : of.getD p 0 = -1 := (free_iff hi hp).2 fun k hk => by
    by_cases e : l = k
    · subst e; rw [h0]; omega
    · rw [BookP.getD_set_ne _ _ _ _ e]; exact HO.out k hk
  have hcell := i64v_at (at_.set l (-1)) l (by rw [hi.hat]; omega)
  rw [h0] at hcell
  have hofc := i64v_at of p (by rw [hi.hof]; omega)
  rw [h2] at hofc
  have hga := b2.at_ hcell
  have hgo := b3.at_ hofc
  have hgb1 : g ≠ ga := bk_ne b1 b2 (by decide)
  have hgb2 : g ≠ go := bk_ne b1 b3 (by decide)
  have f1 := b2.free l
  have f2 := b3.free p
  have c0 := b1.at_ (i := 0) (u := .slice (some ⟨ga, 0, none⟩) n n) rfl
  have c1 := b1.at_ (i := 1) (u := .slice (some ⟨go, 0, none⟩) m m) rfl
  have hgo' := (b3.far (p := ⟨ga, l, none⟩) ne1.symm (.int .i64 (p : Int))).at_ hofc
  have f2' := (b3.far (p := ⟨ga, l, none⟩) ne1.symm (.int .i64 (p : Int))).free p
  have HI := hide hi
  have HH0 := hide h0
  have HH2 := hide h2
  clear hi hcell hofc h0 h2
  go_wp2_with fail
  go_region
  have nB4 := bk_ne b1 b4 (by decide)
  have u1 := (b1.far (p := ⟨ga, l, none⟩) hgb1 (.int .i64 (p : Int))).far (p := ⟨go, p, none⟩) hgb2 (.int .i64 (l : Int))
  have u2 := (b2.put l (.int .i64 (p : Int))).far (p := ⟨go, p, none⟩) ne1 (.int .i64 (l : Int))
  have u3 := (b3.far (p := ⟨ga, l, none⟩) ne1.symm (.int .i64 (p : Int))).put p (.int .i64 (l : Int))
  have u4 := (b4.far (p := ⟨ga, l, none⟩) ne2.symm (.int .i64 (p : Int))).far (p := ⟨go, p, none⟩) ne3.symm (.int .i64 (l : Int))
  rw [i64v_set] at u2 u3
  have hb2 : Kept B T w (((w1.setCell ⟨ga, l, none⟩ (.int .i64 (p : Int))).setCell ⟨go, p, none⟩ (.int .i64 (l : Int))).drew) := (hb1.trans ((Kept.setCell (p := ⟨ga, l, none⟩) B2.1 B2.2 _).trans (Kept.setCell (p := ⟨go, p, none⟩) B3.1 B3.2 _))).drew
  have hsz : B ≤ ((w1.setCell ⟨ga, l, none⟩ (.int .i64 (p : Int))).setCell ⟨go, p, none⟩ (.int .i64 (l : Int))).drew.heap.size := Nat.le_of_lt (Nat.lt_of_le_of_lt B1.1 u1.lt)
  have U1 := hide u1.drew
  have U2 := hide u2.drew
  have U3 := hide u3.drew
  have U4 := hide u4.drew
  clear u1 u2 u3 u4 hga hgo c0 c1 hgo' f2' f1 f2 b1 b2 b3 b4
  generalize ((w1.setCell ⟨ga, l, none⟩ (.int .i64 (p : Int))).setCell ⟨go, p, none⟩ (.int .i64 (l : Int))).drew = w2 at *
  go_wp2_with fail
  refine (count_any g m p 1 (occ of) _ _ gl live _ U1.out U4.out HI.out.hlive HI.out.hm hp HI.out.tree (occ_bounds of) (by omega)).mono ?_
  rintro e w3 ⟨live', rfl, ht, hlen, hb4, hg⟩
  go_wp2_with fail
  go_ret
  have hinv := inv_put HI.out hl hp HH0.out HH2.out ht hlen
  rw [List.set_set] at hinv
  have hs2 := U2.out
  rw [List.set_set] at hs2
  exact ⟨rfl, ⟨of.set p l, live', ga, go, gl, hinv, hn, hm, U1.out.grown hg (by simpa using nB4), hs2.grown hg (by simpa using ne2), U3.out.grown hg (by simpa using ne3), hb4, B1, B2, B3, B4, ne1, ne2, ne3⟩,
    hb2.grown hg hsz B4.1 B4.2⟩

theorem set_any (B T g n m : Nat) (at_ : List Int) (lba place : Int) (w : World) (h : BookAt w B T g n m at_) :
    Calls Tryd.prog 9 #[.pointer (some ⟨g, 0, none⟩), .int .i64 lba, .int .i64 place] w (SetPost w B T g n m at_ lba place) := by
  by_cases hin : 0 ≤ lba ∧ lba < n ∧ 0 ≤ place ∧ place < m
  rotate_left
  · refine (set_range B T g n m at_ lba place w h hin).mono ?_
    rintro e w' ⟨rfl, rfl⟩
    exact ⟨Kept.refl _ _ _, .inr ⟨1, rfl, setCode_range hin, .inl rfl, h⟩⟩
  obtain ⟨l, rfl⟩ := Int.eq_ofNat_of_zero_le hin.1
  obtain ⟨p, rfl⟩ := Int.eq_ofNat_of_zero_le hin.2.2.1
  by_cases hex : ∃ k, k < n ∧ at_.getD k 0 = (p : Int)
  · obtain ⟨k, hk, hat⟩ := hex
    refine (set_some B T g n m l p at_ w h (by omega) (by omega) 0 k hk hat).mono ?_
    rintro e w' ⟨rfl, rfl⟩
    by_cases hkl : k = l
    · subst hkl
      rw [if_pos rfl]
      refine ⟨Kept.refl _ _ _, .inl ⟨rfl, setCode_ok hin fun j hj hj2 => ?_, ?_⟩⟩
      · obtain ⟨of, live, ga, go, gl, hi, -⟩ := h
        have := inv_unique hi hj hk (by rw [hj2]; omega) (hj2.trans hat.symm)
        omega
      · rw [Int.toNat_natCast, set_same _ _ _ hat]; exact h
    · rw [if_neg hkl]
      exact ⟨Kept.refl _ _ _, .inr ⟨10, rfl, setCode_state hin hk hat (by omega), .inr rfl, h⟩⟩
  · have hno : ∀ k, k < n → at_.getD k 0 ≠ (p : Int) := fun k hk e => hex ⟨k, hk, e⟩
    refine (set_free B T g n m l p at_ w h (by omega) (by omega) hno).mono ?_
    rintro e w' ⟨rfl, h1, hb⟩
    exact ⟨hb, .inl ⟨rfl, setCode_ok hin fun j hj hj2 => absurd hj2 (hno j hj), by rw [Int.toNat_natCast]; exact h1⟩⟩

theorem drop_any (B T g n m : Nat) (at_ : List Int) (lba : Int) (w : World) (h : BookAt w B T g n m at_) :
    Calls Tryd.prog 16 #[.pointer (some ⟨g, 0, none⟩), .int .i64 lba] w fun e w' => Kept B T w w' ∧ ((¬ (0 ≤ lba ∧ lba < n) ∧ e = .returned (errV 1) ∧ BookAt w' B T g n m at_) ∨ (0 ≤ lba ∧ lba < n ∧ e = .returned .nilIface ∧ BookAt w' B T g n m (at_.set lba.toNat (-1)))) := by
  have H0 := hide h
  obtain ⟨of, live, ga, go, gl, hi, hn, hm, b1, b2, b3, b4, -⟩ := h
  have c0 := b1.at_ (i := 0) (u := .slice (some ⟨ga, 0, none⟩) n n) rfl
  clear hi b1 b2 b3 b4
  by_cases hin : 0 ≤ lba ∧ lba < n
  rotate_left
  · have HIN := hide hin
    go_enter Tryd.func16, Tryd.ntmps16
    go_wp2_with fail
    refine (in_any lba n _ false (by simpa using hin)).mono ?_
    rintro e w' ⟨rfl, rfl⟩
    clear hin
    go_wp2_with fail
    go_ret
    exact ⟨Kept.refl _ _ _, .inl ⟨HIN.out, rfl, H0.out⟩⟩
  obtain ⟨h0, h1⟩ := hin
  obtain ⟨l, rfl⟩ := Int.eq_ofNat_of_zero_le h0
  go_enter Tryd.func16, Tryd.ntmps16
  go_wp2_with fail
  refine (in_any l n _ true (by simp; omega)).mono ?_
  rintro e w' ⟨rfl, rfl⟩
  go_wp2_with fail
  refine (clear_any B T g n m l at_ _ H0.out (by omega)).mono ?_
  rintro e w1 ⟨rfl, hB, hb⟩
  have HB := hide hB
  clear hB
  go_wp2_with fail
  go_ret
  exact ⟨hb, .inr ⟨h0, h1, rfl, by rw [Int.toNat_natCast]; exact HB.out⟩⟩
end Go.Proofs.YthaoiilghphbiaaDoor.BookW
