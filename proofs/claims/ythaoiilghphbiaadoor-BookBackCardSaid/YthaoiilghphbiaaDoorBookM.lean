/- The walks of book.New, clear, Set, Drop, look, At, Of, Live: a book by where each lba lies. -/
import Derived.Test.YthaoiilghphbiaaDoorBookW
import Derived.Deep.RegionWith
import Derived.Deep.RegionHeld3
set_option linter.unusedVariables false
namespace Go.Proofs.YthaoiilghphbiaaDoor.BookW
open Go.RowKit FenP BookP

attribute [local irreducible] lb fillA

theorem below_set {B : Nat} {w : World} {p : Addr} (hp : B ≤ p.block) (u : Value) : Below B w (w.setCell p u) := (Below.refl _ _).setCell hp u

theorem clear_none (B T g n m l : Nat) (at_ : List Int) (w : World) (h : BookAt w B T g n m at_) (hl : l < n) (h0 : at_.getD l 0 = -1) :
    Calls Tryd.prog 33 #[.pointer (some ⟨g, 0, none⟩), .int .i64 l] w fun e w' => e = .returned (.tuple #[]) ∧ w = w' := by
  obtain ⟨of, live, ga, go, gl, hi, hn, hm, b1, b2, b3, b4, r⟩ := h
  have c0 := b1.at_ (i := 0) (u := .slice (some ⟨ga, 0, none⟩) n n) rfl
  have hc := b2.at_ (i64v_at at_ l (by rw [hi.hat]; omega))
  rw [h0] at hc
  clear b1 b2 b3 b4 r hi
  go_enter Tryd.func33, Tryd.ntmps33
  go_wp2
  go_end0
  exact ⟨rfl, rfl⟩

theorem set_same (l : List Int) (i : Nat) (x : Int) (h : l.getD i 0 = x) : l.set i x = l := by
  by_cases hi : i < l.length
  · apply List.ext_getElem (by simp)
    intro j h1 h2
    by_cases e : i = j
    · subst e
      simp [← h, List.getD, hi]
    · simp [e]
  · rw [List.set_eq_of_length_le (by omega)]

theorem clear_any (B T g n m l : Nat) (at_ : List Int) (w : World) (h : BookAt w B T g n m at_) (hl : l < n) :
    Calls Tryd.prog 33 #[.pointer (some ⟨g, 0, none⟩), .int .i64 l] w fun e w' => e = .returned (.tuple #[]) ∧ BookAt w' B T g n m (at_.set l (-1)) ∧ Kept B T w w' := by
  by_cases h0 : at_.getD l 0 = -1
  · refine (clear_none B T g n m l at_ w h hl h0).mono ?_
    rintro e w' ⟨rfl, rfl⟩
    exact ⟨rfl, by rw [set_same _ _ _ h0]; exact h, Kept.refl _ _ _⟩
  obtain ⟨of, live, ga, go, gl, hi, hn, hm, b1, b2, b3, b4, B1, B2, B3, B4, ne1, ne2, ne3⟩ := h
  obtain ⟨p, hp⟩ : ∃ p : Nat, at_.getD l 0 = (p : Int) := by
    rcases hi.a1 l hl with g1 | ⟨g1, _, _⟩
    · exact absurd g1 h0
    · exact Int.eq_ofNat_of_zero_le g1
  have hpm : p < m := by
    rcases hi.a1 l hl with g1 | ⟨_, g1, _⟩
    · exact absurd g1 h0
    · omega
  have hcell := i64v_at at_ l (by rw [hi.hat]; omega)
  rw [hp] at hcell
  have hofc := i64v_at of p (by rw [hi.hof]; omega)
  have hga := b2.at_ hcell
  have hgo := b3.at_ hofc
  have hgb1 : g ≠ ga := bk_ne b1 b2 (by decide)
  have hgb2 : g ≠ go := bk_ne b1 b3 (by decide)
  have f1 := b2.free l
  have f2 := b3.free p
  have c0 := b1.at_ (i := 0) (u := .slice (some ⟨ga, 0, none⟩) n n) rfl
  have c1 := b1.at_ (i := 1) (u := .slice (some ⟨go, 0, none⟩) m m) rfl
  have c0' := (b1.far (p := ⟨go, p, none⟩) hgb2 (.int .i64 (-1))).at_ (i := 0) (u := .slice (some ⟨ga, 0, none⟩) n n) rfl
  have hga' := (b2.far (p := ⟨go, p, none⟩) ne1 (.int .i64 (-1))).at_ hcell
  have f1' := (b2.far (p := ⟨go, p, none⟩) ne1 (.int .i64 (-1))).free l
  have HI := hide hi
  have HP := hide hp
  have hml : m ≤ 4096 := hi.hm
  have hnl : n ≤ 256 := hi.hn
  clear hi hp hcell hofc h0
  generalize of.getD p 0 = q at hgo
  go_enter Tryd.func33, Tryd.ntmps33
  go_wp2_with fail
  refine (count_any g m p (-1) (occ of) _ _ gl live _ ((b1.far (p := ⟨go, p, none⟩) hgb2 (.int .i64 (-1))).far (p := ⟨ga, l, none⟩) hgb1 (.int .i64 (-1))) ((b4.far (p := ⟨go, p, none⟩) ne3.symm (.int .i64 (-1))).far (p := ⟨ga, l, none⟩) ne2.symm (.int .i64 (-1))) HI.out.hlive HI.out.hm hpm HI.out.tree (occ_bounds of) (by omega)).mono ?_
  rintro e w2 ⟨live', rfl, ht, hlen, hb4, hg⟩
  go_wp2_with fail
  go_end0
  obtain ⟨-, -, hinv⟩ := inv_clear HI.out hl HP.out ht hlen
  refine ⟨rfl, ⟨of.set p (-1), live', ga, go, gl, hinv, hn, hm, ?_, ?_, ?_, hb4, B1, B2, B3, B4, ne1, ne2, ne3⟩, ?_⟩
  · exact (((b1.far (p := ⟨go, p, none⟩) hgb2 (.int .i64 (-1))).far (p := ⟨ga, l, none⟩) hgb1 (.int .i64 (-1)))).grown hg (by have := bk_ne b1 b4 (by decide); simpa using this)
  · have := ((b2.far (p := ⟨go, p, none⟩) ne1 (.int .i64 (-1))).put l (.int .i64 (-1))).grown hg (by simpa using ne2)
    rwa [i64v_set] at this
  · have := ((b3.put p (.int .i64 (-1))).far (p := ⟨ga, l, none⟩) ne1.symm (.int .i64 (-1))).grown hg (by simpa using ne3)
    rwa [i64v_set] at this
  · exact ((Kept.setCell (p := ⟨go, p, none⟩) B3.1 B3.2 _).trans (Kept.setCell (p := ⟨ga, l, none⟩) B2.1 B2.2 _)).grown hg (by simpa using Nat.le_of_lt (Nat.lt_of_le_of_lt B1.1 b1.lt)) B4.1 B4.2

/-! New -/
theorem new_range (lbas places : Int) (w : World) (h : lbas < 1 ∨ 256 < lbas ∨ places < 1 ∨ 4096 < places) :
    Calls Tryd.prog 8 #[.int .i64 lbas, .int .i64 places] w fun e w' => e = .returned (.tuple #[.pointer none, .iface 35 (.int .i64 1)]) ∧ w = w' := by
  by_cases h1 : lbas < 1
  · go_enter Tryd.func8, Tryd.ntmps8
    go_wp2
    go_ret2
    exact ⟨rfl, rfl⟩
  by_cases h2 : 256 < lbas
  · go_enter Tryd.func8, Tryd.ntmps8
    go_wp2
    go_ret2
    exact ⟨rfl, rfl⟩
  by_cases h3 : places < 1
  · go_enter Tryd.func8, Tryd.ntmps8
    go_wp2
    go_ret2
    exact ⟨rfl, rfl⟩
  have h4 : 4096 < places := by omega
  go_enter Tryd.func8, Tryd.ntmps8
  go_wp2
  go_ret2
  exact ⟨rfl, rfl⟩

theorem new_fin (w : World) (B T g n m ga go gl : Nat) (hn : 0 < n) (hn2 : n ≤ 256) (hm : 0 < m) (hm2 : m ≤ 4096)
    (b1 : Bk w g 63 #[.slice (some ⟨ga, 0, none⟩) n n, .slice (some ⟨go, 0, none⟩) m m, .slice (some ⟨gl, 0, none⟩) (m + 1) (m + 1)])
    (b2 : Bk w ga 3 (i64v (List.replicate n (-1))).toArray) (b3 : Bk w go 3 (i64v (List.replicate m (-1))).toArray) (b4 : Bk w gl 3 (fillA (m + 1) 0))
    (h : (B ≤ g ∧ g < T) ∧ (B ≤ ga ∧ ga < T) ∧ (B ≤ go ∧ go < T) ∧ (B ≤ gl ∧ gl < T) ∧ ga ≠ go ∧ ga ≠ gl ∧ go ≠ gl) : BookAt w B T g n m (List.replicate n (-1)) := by
  refine ⟨_, List.replicate (m + 1) 0, ga, go, gl, inv_new n m hn2 hm2, hn, hm, b1, b2, b3, ?_, h⟩
  have : fillA (m + 1) 0 = (i64v (List.replicate (m + 1) 0)).toArray := by unfold fillA; simp
  rwa [this] at b4

theorem bk0 (w : World) (t : TypeId) (cs : Array Value) (o1 o2 o3 : Obj) : Bk ((((w.alloc (.cells cs t)).alloc o1).alloc o2).alloc o3) w.heap.size t cs := (((Bk.new w t cs).alloc o1).alloc o2).alloc o3
theorem bk1 (w : World) (t : TypeId) (cs : Array Value) (o0 o2 o3 : Obj) : Bk ((((w.alloc o0).alloc (.cells cs t)).alloc o2).alloc o3) (w.heap.size + 1) t cs := by
  have := ((Bk.new (w.alloc o0) t cs).alloc o2).alloc o3
  simpa using this
theorem bk2 (w : World) (t : TypeId) (cs : Array Value) (o0 o1 o3 : Obj) : Bk ((((w.alloc o0).alloc o1).alloc (.cells cs t)).alloc o3) (w.heap.size + 2) t cs := by
  have := (Bk.new ((w.alloc o0).alloc o1) t cs).alloc o3
  simpa using this
theorem bk3 (w : World) (t : TypeId) (cs : Array Value) (o0 o1 o2 : Obj) : Bk ((((w.alloc o0).alloc o1).alloc o2).alloc (.cells cs t)) (w.heap.size + 3) t cs := by
  have := Bk.new (((w.alloc o0).alloc o1).alloc o2) t cs
  simpa using this

set_option maxRecDepth 100000 in
set_option maxHeartbeats 4000000 in
theorem new_ok (n m : Nat) (hn : 0 < n) (hn2 : n ≤ 256) (hm : 0 < m) (hm2 : m ≤ 4096) (w : World) :
    Calls Tryd.prog 8 #[.int .i64 n, .int .i64 m] w fun e w' => ∃ g, e = .returned (.tuple #[.pointer (some ⟨g, 0, none⟩), .nilIface]) ∧ BookAt w' w.heap.size w'.heap.size g n m (List.replicate n (-1)) ∧ Below w.heap.size w w' := by
  have hmk := fun w => run_make_row' (P := Tryd.prog) 31 3 (.int .i64 0) 8 Tryd.underlying31 int_info rfl .i64 .i64 (m + 1) (by omega) (by omega) w
  rw [fillA_zero, show ((m + 1 : Nat) : Int) = (m : Int) + 1 by omega] at hmk
  have hwr : IntKind.i64.wrap ((m : Int) + 1) = (m : Int) + 1 := by rw [IntKind.wrap_i64]; omega
  go_enter Tryd.func8, Tryd.ntmps8
  go_wp2_with fail
  go_region_with (first
    | (go_at_call 31
       with_reducible refine (blank_any n (by omega) _).mono ?_
       rintro e w' ⟨rfl, rfl⟩)
    | (go_at_call 31
       with_reducible refine (blank_any m (by omega) _).mono ?_
       rintro e w' ⟨rfl, rfl⟩))
  all_goals go_wp2_with fail
  all_goals go_ret2
  all_goals
    refine ⟨w.heap.size + 3, rfl, new_fin _ _ _ _ _ _ _ _ _ hn hn2 hm hm2 (bk3 w _ _ _ _ _).drew ?b2 ?b3 ?b4 ?b5, ?b6⟩
    case b2 => first | exact (bk0 w _ _ _ _ _).drew | exact (bk1 w _ _ _ _ _).drew | exact (bk2 w _ _ _ _ _).drew
    case b3 => first | exact (bk0 w _ _ _ _ _).drew | exact (bk1 w _ _ _ _ _).drew | exact (bk2 w _ _ _ _ _).drew
    case b4 => first | exact (bk0 w _ _ _ _ _).drew | exact (bk1 w _ _ _ _ _).drew | exact (bk2 w _ _ _ _ _).drew
    case b5 => simp; omega
    case b6 => exact (((((Below.refl _ _).alloc (Nat.le_refl _) _).alloc (by simp) _).alloc (by simp; omega) _).alloc (by simp; omega) _).drew
end Go.Proofs.YthaoiilghphbiaaDoor.BookW
