/- The walks of container/heap's Pop and Push over a pool's entries. -/
import Derived.Test.YthaoiilghphbiaaDoorHeapPush
set_option linter.unusedVariables false
namespace Go.Proofs.YthaoiilghphbiaaDoor.HeapW
open Go.RowKit HeapP

theorem Chg.trans2 {w w1 w' : World} {a b c : Nat} (h : Chg w w1 a b) (k : Chg w1 w' a c) (hc : c = b ∨ w.heap.size ≤ c) : Chg w w' a b :=
  ⟨k.1.trans h.1, k.2.1.trans h.2.1, k.2.2.1.trans h.2.2.1, Nat.le_trans h.2.2.2.1 k.2.2.2.1, fun q hq h1 h2 => (k.2.2.2.2 q (Nat.lt_of_lt_of_le hq h.2.2.2.1) h1 (by rcases hc with rfl | hc <;> omega)).trans (h.2.2.2.2 q hq h1 h2)⟩

theorem perm_pop {l l2 : List (Int × Int)} {n : Nat} (hl : l.length = n + 1) (hp : l2.Perm (swp l 0 n)) (he : el l2 n = el (swp l 0 n) n) : (l2.take n ++ [el l 0]).Perm l := by
  have h2 : l2.length = n + 1 := by rw [hp.length_eq, swp_length, hl]
  have h3 : el l2 n = el l 0 := by rw [he, el_swp _ _ _ _ (by omega) (by omega), if_pos rfl]
  have h4 := take_last h2
  rw [h3] at h4
  rw [h4]
  exact hp.trans (swp_perm _ _ _ (by omega) (by omega))

theorem swp_zero (l : List (Int × Int)) (n : Nat) (hl : l.length = n + 1) : el (swp l 0 n) n = el l 0 := by
  rw [el_swp _ _ _ _ (by omega) (by omega), if_pos rfl]

attribute [local irreducible] swp el lt EB Hp DInv UInv flat

set_option maxHeartbeats 2000000 in
theorem heapPop_any (g ge cap n : Nat) (sp S1 S2 : Value) (l : List (Int × Int)) (w : World) (h : PL w g ge cap sp S1 S2 l) (hl : l.length = n + 1) (hn : n ≤ 4000) (hp : Hp l l.length 0) :
    Calls Tryd.prog 42 #[.iface 79 (.pointer (some ⟨g, 3, none⟩))] w fun e w' => ∃ l', e = .returned (.iface 77 (.agg #[.int .i64 (el l 0).1, .int .i64 (el l 0).2])) ∧ PL w' g ge cap sp S1 S2 l' ∧ Hp l' l'.length 0 ∧ (l' ++ [el l 0]).Perm l ∧ Chg w w' g ge := by
  have n1 := nil_len ⟨g, 3, none⟩ w
  have m1 := method_len _ w _ _ _ h.lb.1
  rw [hl] at m1
  have n2 := nil_swap ⟨g, 3, none⟩ w
  have m2 := method_swap _ w _ _ _ h.lb.1
  have HH := hide h
  have HL := hide hl
  have HP := hide hp
  have x1 : ((n : Int) + 1 - 1) = (n : Int) := by omega
  clear h hl hp
  go_enter Tryd.func42, Tryd.ntmps42
  go_wp2_with fail
  refine (len_any _ _ _ _).mono ?_
  rintro e w1 ⟨rfl, rfl⟩
  clear n1 m1
  go_wp2_with fail
  refine (swap_i HH.out.lb 0 n _ _ rfl rfl (by rw [HL.out]; omega) (by rw [HL.out]; omega) (by rw [HL.out]; omega)).mono ?_
  rintro e w2 ⟨rfl, he2, hg2⟩
  have HM2 : Hid (Moved w g ge cap (n + 1) l w2 (swp l 0 n)) := hide (Moved.swap ⟨HH.out.lb, List.Perm.refl _, rfl, fun _ _ => rfl, World.grownBy.refl _ _⟩ he2 hg2 (by omega) (by omega) (by rw [HL.out]; exact Nat.le_refl _))
  have HP2 := hide (HH.out.moved HM2.out)
  clear he2 hg2 n2 m2
  go_wp2_with fail
  refine (down_any g ge cap 0 n (swp l 0 n) _ HM2.out.1 (by rw [swp_length, HL.out]; omega) (by rw [swp_length, HL.out]; omega) (dinv_pop (by have := HP.out; rw [HL.out] at this; exact this) HL.out) (by omega)).mono ?_
  rintro e w3 ⟨b, l2, rfl, hm3, hp3⟩
  have HP3 := hide (HP2.out.moved hm3)
  have HM3 := hide hm3
  have HL2 : Hid (l2.length = n + 1) := hide (by rw [hm3.2.2.1, swp_length, HL.out])
  have HEL : Hid (el l2 n = el l 0) := hide (by rw [hm3.2.2.2.1 n (Nat.le_refl _), swp_zero l n HL.out])
  have HP4 := hide hp3
  have n4 := nil_pop ⟨g, 3, none⟩ w3
  have m4 := method_pop ⟨g, 3, none⟩ w3
  clear hm3 hp3
  go_wp2_with fail
  refine (pop_any g ge cap n sp S1 S2 l2 _ HP3.out HL2.out (by omega)).mono ?_
  rintro e w4 ⟨rfl, hp4, hc4⟩
  have HP5 := hide hp4
  clear hp4 n4 m4
  go_wp2_with fail
  go_ret
  refine ⟨l2.take n, by rw [HEL.out]; rfl, HP5.out, hp_take HP4.out (by rw [HL2.out]; omega), perm_pop HL.out HM3.out.2.1 (HM3.out.2.2.2.1 n (Nat.le_refl _)), ?_⟩
  exact ((Chg.of_grown HM2.out.2.2.2.2 g).trans (Chg.of_grown HM3.out.2.2.2.2 g)).trans hc4

set_option maxHeartbeats 2000000 in
theorem heapPush_any (g ge cap : Nat) (sp S1 S2 : Value) (l : List (Int × Int)) (y1 y2 : Int) (w : World) (h : PL w g ge cap sp S1 S2 l) (hn : l.length ≤ 4000) (hp : Hp l l.length 0) :
    Calls Tryd.prog 44 #[.iface 79 (.pointer (some ⟨g, 3, none⟩)), .iface 77 (.agg #[.int .i64 y1, .int .i64 y2])] w fun e w' => ∃ ge' cap' l', e = .returned (.tuple #[]) ∧ PL w' g ge' cap' sp S1 S2 l' ∧ Hp l' l'.length 0 ∧ l'.Perm (l ++ [(y1, y2)]) ∧ (ge' = ge ∨ w.heap.size ≤ ge') ∧ Chg w w' g ge := by
  have n1 := nil_push ⟨g, 3, none⟩ w
  have m1 := method_push ⟨g, 3, none⟩ w
  have HH := hide h
  have HP := hide hp
  clear h hp
  go_enter Tryd.func44, Tryd.ntmps44
  go_wp2_with fail
  refine (push_any g ge cap sp S1 S2 l y1 y2 _ HH.out (by omega)).mono ?_
  rintro e w1 ⟨ge', cap', rfl, hp1, hor, hc1⟩
  have n2 := nil_len ⟨g, 3, none⟩ w1
  have m2 := method_len _ w1 _ _ _ hp1.lb.1
  have hl1 : (l ++ [(y1, y2)]).length = l.length + 1 := by simp
  rw [hl1] at m2
  have HP1 := hide hp1
  have HL1 := hide hl1
  clear hp1 hl1 n1 m1
  obtain ⟨n, hnn⟩ : ∃ n, n = l.length := ⟨_, rfl⟩
  rw [← hnn] at m2 hn
  have HNN := hide hnn
  have x1 : ((n : Int) + 1 - 1) = (n : Int) := by omega
  clear hnn
  go_wp2_with fail
  refine (len_any _ _ _ _).mono ?_
  rintro e w2 ⟨rfl, rfl⟩
  go_wp2_with fail
  refine (up_any g ge' cap' n (l ++ [(y1, y2)]) _ HP1.out.lb (by rw [HL1.out, HNN.out]; omega) (by rw [HL1.out, ← HNN.out]; omega) (by rw [HNN.out]; exact uinv_push _ HP.out)).mono ?_
  rintro e w3 ⟨l', rfl, hm3, hp3⟩
  have HM3 := hide hm3
  have HP3 := hide hp3
  have HP4 := hide (HP1.out.moved hm3)
  clear hm3 hp3 n2 m2
  go_wp2_with fail
  go_end0
  exact ⟨ge', cap', l', rfl, HP4.out, HP3.out, HM3.out.2.1, hor, hc1.trans2 (Chg.of_grown HM3.out.2.2.2.2 g) hor⟩
end Go.Proofs.YthaoiilghphbiaaDoor.HeapW
