/- The walks of entries' Push and Pop, of container/heap's Push and Pop over a pool's entries. -/
import Derived.Test.YthaoiilghphbiaaDoorHeapD
import Derived.Deep.RegionWith
import Derived.Deep.RegionHeld3
set_option linter.unusedVariables false
namespace Go.Proofs.YthaoiilghphbiaaDoor.HeapW
open Go.RowKit HeapP

/-- The cells of a list of pairs. -/
def flat (l : List (Int × Int)) : List Value := l.flatMap fun e => [.int .i64 e.1, .int .i64 e.2]
theorem flat_length (l : List (Int × Int)) : (flat l).length = l.length * 2 := by
  induction l with
  | nil => rfl
  | cons x t ih => simp only [flat, List.flatMap_cons, List.length_append, List.length_cons, List.length_nil] at *; omega
theorem flat_append (l m : List (Int × Int)) : flat (l ++ m) = flat l ++ flat m := by simp [flat]
theorem flat_snoc (l : List (Int × Int)) (a b : Int) : flat l ++ [.int .i64 a, .int .i64 b] = flat (l ++ [(a, b)]) := by simp [flat]
theorem flat_get : ∀ (l : List (Int × Int)) (i : Nat), i < l.length → (flat l)[i * 2]? = some (.int .i64 (el l i).1) ∧ (flat l)[i * 2 + 1]? = some (.int .i64 (el l i).2) := by
  intro l
  induction l with
  | nil => intro i h; simp at h
  | cons x t ih =>
    intro i h
    have hc : flat (x :: t) = .int .i64 x.1 :: .int .i64 x.2 :: flat t := rfl
    rw [hc]
    cases i with
    | zero => exact ⟨rfl, rfl⟩
    | succ i =>
      have := ih i (by simpa using h)
      rw [show (i + 1) * 2 = i * 2 + 1 + 1 by omega]
      simpa [el] using this
theorem flat_ext {xs : List Value} {l : List (Int × Int)} (hl : xs.length = l.length * 2) (h : ∀ i, i < l.length → xs[i * 2]? = some (.int .i64 (el l i).1) ∧ xs[i * 2 + 1]? = some (.int .i64 (el l i).2)) : xs = flat l := by
  apply List.ext_getElem?
  intro k
  by_cases hk : k < l.length * 2
  · have h1 := h (k / 2) (by omega)
    have h2 := flat_get l (k / 2) (by omega)
    by_cases e : k % 2 = 0
    · have ek : k = k / 2 * 2 := by omega
      rw [ek, h1.1, h2.1]
    · have ek : k = k / 2 * 2 + 1 := by omega
      rw [ek, h1.2, h2.2]
  · rw [List.getElem?_eq_none (by omega), List.getElem?_eq_none (by rw [flat_length]; omega)]

theorem EB.own {w : World} {ge cap base : Nat} {l : List (Int × Int)} (h : EB w ge cap l) (hb : base ≤ ge) (hm : cap ≤ maxLen) : w.ownsRow base 77 2 (.slice (some ⟨ge, 0, none⟩) l.length cap) l.length (flat l) := by
  obtain ⟨cur, h1, h2, h3, h4⟩ := h
  refine ⟨flat_length l, .inr ⟨ge, cap, cur, rfl, hb, h1, h4, hm, h2, flat_ext (by simp; omega) fun i hi => ?_⟩⟩
  rw [List.getElem?_take_of_lt (by omega), List.getElem?_take_of_lt (by omega), Array.getElem?_toList, Array.getElem?_toList]
  exact h3 i hi
theorem own_EB {w : World} {base n : Nat} {v : Value} {l : List (Int × Int)} (h : w.ownsRow base 77 2 v n (flat l)) (hn : l.length = n) (h0 : 0 < n) : ∃ ge cap, v = .slice (some ⟨ge, 0, none⟩) n cap ∧ base ≤ ge ∧ EB w ge cap l ∧ cap ≤ maxLen := by
  subst hn
  rcases h.2 with ⟨-, h⟩ | ⟨g, cap, cur, rfl, hb, hg, hnc, hm, hs, ht⟩
  · omega
  · refine ⟨g, cap, rfl, hb, ⟨cur, hg, hs, fun i hi => ?_, hnc⟩, hm⟩
    have h1 := flat_get l i hi
    rw [← ht, List.getElem?_take_of_lt (by omega), List.getElem?_take_of_lt (by omega), Array.getElem?_toList, Array.getElem?_toList] at h1
    exact h1
theorem EB.take {w : World} {ge cap : Nat} {l : List (Int × Int)} (h : EB w ge cap l) (n : Nat) : EB w ge cap (l.take n) := by
  obtain ⟨cur, h1, h2, h3, h4⟩ := h
  refine ⟨cur, h1, h2, fun i hi => ?_, by simp; omega⟩
  rw [List.length_take] at hi
  rw [el_take (by omega)]
  exact h3 i (by omega)

theorem bk_ne2 {w : World} {g h : Nat} {t e : TypeId} {cs ds : Array Value} (h1 : Bk w g t cs) (h2 : w.heap[h]? = some (.cells ds e (0, 0))) (hne : t ≠ e) : g ≠ h := by
  rintro rfl
  unfold Bk at h1
  rw [h1] at h2
  injection h2 with h2
  injection h2 with _ ht
  exact hne ht

theorem EB.ne {w : World} {g ge cap : Nat} {l : List (Int × Int)} {cs : Array Value} (h : EB w ge cap l) (hb : Bk w g 75 cs) : g ≠ ge := by
  obtain ⟨cur, h1, -⟩ := h
  exact bk_ne2 hb h1 (by decide)
/-- The pool's struct at g and its list. -/
def PL (w : World) (g ge cap : Nat) (sp S1 S2 : Value) (l : List (Int × Int)) : Prop :=
  Bk w g 75 #[sp, S1, S2, .slice (some ⟨ge, 0, none⟩) l.length cap] ∧ EB w ge cap l ∧ cap ≤ maxLen
section
variable {w w' : World} {g ge cap : Nat} {sp S1 S2 : Value} {l l' : List (Int × Int)}
theorem PL.ne (h : PL w g ge cap sp S1 S2 l) : g ≠ ge := by
  obtain ⟨cur, h1, -⟩ := h.2.1
  rintro rfl
  have := h.1
  unfold Bk at this
  rw [h1] at this
  injection this with this
  injection this with _ ht
  exact absurd ht (by decide)
theorem PL.lb (h : PL w g ge cap sp S1 S2 l) : LB w g ge cap l := ⟨h.1.at_ (i := 3) rfl, h.ne, h.1.lt, h.2.1⟩
theorem PL.below (h : PL w g ge cap sp S1 S2 l) (hb : Below w.heap.size w w') : PL w' g ge cap sp S1 S2 l :=
  ⟨h.1.below hb h.1.lt, h.2.1.block (hb.block ge h.2.1.lt_), h.2.2⟩
theorem PL.moved {n : Nat} (h : PL w g ge cap sp S1 S2 l) (hm : Moved w g ge cap n l w' l') : PL w' g ge cap sp S1 S2 l' := by
  refine ⟨?_, hm.1.2.2.2, h.2.2⟩
  have := h.1.grown hm.2.2.2.2 (fun e => h.ne (by injection e))
  rw [hm.2.2.1]
  exact this
end
/-- But for two blocks all is as it was. -/
def Chg (w w' : World) (a b : Nat) : Prop := w'.os = w.os ∧ w'.tape = w.tape ∧ w'.output = w.output ∧ w.heap.size ≤ w'.heap.size ∧ ∀ k, k < w.heap.size → k ≠ a → k ≠ b → w'.heap[k]? = w.heap[k]?
section
variable {w w1 w' : World} {a b : Nat}
theorem Chg.refl (w : World) (a b : Nat) : Chg w w a b := ⟨rfl, rfl, rfl, Nat.le_refl _, fun _ _ _ _ => rfl⟩
theorem Chg.trans (h : Chg w w1 a b) (k : Chg w1 w' a b) : Chg w w' a b :=
  ⟨k.1.trans h.1, k.2.1.trans h.2.1, k.2.2.1.trans h.2.2.1, Nat.le_trans h.2.2.2.1 k.2.2.2.1, fun q hq h1 h2 => (k.2.2.2.2 q (Nat.lt_of_lt_of_le hq h.2.2.2.1) h1 h2).trans (h.2.2.2.2 q hq h1 h2)⟩
theorem Chg.of_below (h : Below w.heap.size w w') (a b : Nat) : Chg w w' a b := ⟨h.os, h.tape, h.output, h.size, fun k hk _ _ => h.block k hk⟩
theorem Chg.of_grown (h : w.grownBy w' (some b)) (a : Nat) : Chg w w' a b := ⟨h.os, h.tape, h.output, h.size, fun k hk _ h2 => h.block k hk (fun e => h2 (by injection e))⟩
theorem Chg.of_set (w : World) (a b k : Nat) (u : Value) : Chg w (w.setCell ⟨a, k, none⟩ u) a b :=
  ⟨rfl, rfl, rfl, by simp [World.setCell], fun q hq h1 _ => Below.heap_setCell w ⟨a, k, none⟩ u q h1⟩
theorem Chg.below {B : Nat} (h : Chg w w' a b) (ha : B ≤ a) (hb : B ≤ b) (hB : B ≤ w.heap.size) : Below B w w' := ⟨h.1, h.2.1, h.2.2.1, h.2.2.2.1, fun k hk => h.2.2.2.2 k (by omega) (by omega) (by omega)⟩
theorem Chg.drew (h : Chg w w' a b) : Chg w w'.drew a b := h
end

attribute [local irreducible] swp el lt EB Hp DInv UInv flat

theorem pop_any (g ge cap n : Nat) (sp S1 S2 : Value) (l : List (Int × Int)) (w : World) (h : PL w g ge cap sp S1 S2 l) (hl : l.length = n + 1) (hn : n ≤ 4096) :
    Calls Tryd.prog 77 #[.pointer (some ⟨g, 3, none⟩)] w fun e w' => e = .returned (.iface 77 (.agg #[.int .i64 (el l n).1, .int .i64 (el l n).2])) ∧ PL w' g ge cap sp S1 S2 (l.take n) ∧ Chg w w' g ge := by
  have hlt := h.2.1.len
  obtain ⟨c1, c2⟩ := h.2.1.cells (i := n) (by omega)
  have c3 := h.1.at_ (i := 3) rfl
  have f3 := h.1.free 3
  have hgl := h.1.lt
  have HH := hide h
  rw [hl] at c3
  have HL := hide hl
  obtain ⟨a1, a2, ha⟩ : ∃ a1 a2, el l n = (a1, a2) := ⟨_, _, rfl⟩
  rw [ha] at c1 c2 ⊢
  simp only at c1 c2 ⊢
  have hlt' : n + 1 ≤ cap := by omega
  have x1 : ((n : Int) + 1 - 1) = (n : Int) := by omega
  clear h hl ha hlt
  go_enter Tryd.func77, Tryd.ntmps77
  go_wp2_with fail
  go_ret
  have hp := (HH.out.1.put 3 (.slice (some ⟨ge, 0, none⟩) n cap)).alloc (.cells #[.int .i64 a1, .int .i64 a2] 77)
  refine ⟨rfl, ⟨?_, ?_, HH.out.2.2⟩, ?_⟩
  · rw [show (l.take n).length = n by rw [List.length_take, HL.out]; omega]
    exact hp
  · refine (HH.out.2.1.take n).block ?_
    exact (Below.heap_alloc _ _ _ (by simpa [World.setCell] using HH.out.2.1.lt_)).trans (Below.heap_setCell _ _ _ _ (Ne.symm HH.out.ne))
  · exact (Chg.of_set w g ge 3 _).trans (Chg.of_below ((Below.refl _ _).alloc (Nat.le_refl _) _) g ge)

theorem entry_info : (Tryd.prog.info? 77).map (fun i => (i.zero, i.size, i.bytes)) = some (some (.agg #[.int .i64 0, .int .i64 0]), 2, 16) := by kernel_rfl

theorem step_append_two (w : World) {ops : Array Oper} {o : Oper} {a : Act} {K : Act → World → Prop} {Q : Exit → Act → World → Prop} {E : Prop} (hgd : o.guard = none) (s x : Operand)
    (ho : o.op = .call { callee := .builtin .append, args := #[s, x], argTypes := #[73, 73] })
    (base : Nat) (v : Value) (n : Nat) (l : List (Int × Int)) (hs : a.eval s = v) (hown : w.ownsRow base 77 2 v n (flat l)) (hn : l.length = n) (hn2 : n ≤ 4096)
    (ad : Addr) (y1 y2 : Int) (hx : a.eval x = .slice (some ad) 1 1) (hc : ∀ j u, [Value.int .i64 y1, .int .i64 y2][j]? = some u → w.cell? (ad.add j) = some u) (hbase : base ≤ w.heap.size)
    (h : ∀ ge cap w', base ≤ ge → EB w' ge cap (l ++ [(y1, y2)]) → cap ≤ maxLen → (some ge = v.ownBlock ∨ ge = w.heap.size) → w.grownBy w' v.ownBlock → K (a.put o.dst (.slice (some ⟨ge, 0, none⟩) (n + 1) cap)) w') :
    if Region.wanted o (yielded ops a.tmps) = true then Oper.wp Tryd.prog o a w K Q else E := by
  have hw : Region.wanted o (yielded ops a.tmps) = true := by simp [Region.wanted, hgd]
  rw [if_pos hw]
  obtain ⟨i0, hi0, hz0, hz1, hz2⟩ := info_parts entry_info
  obtain ⟨v', w', hrun, h2, h3, -, h5⟩ := run_append_own_at (P := Tryd.prog) w base 73 o.type 77 i0 _ 2 16 Tryd.underlying73 hi0 hz0 hz1 hz2 rfl (by omega) v n (flat l) hown ad 1 1 [.int .i64 y1, .int .i64 y2] rfl hc (by intro u hu; simp at hu; rcases hu with rfl | rfl <;> rfl) (by simp only [maxLen]; omega) (by omega) hbase
  rw [flat_snoc] at h2
  obtain ⟨ge, cap, rfl, hb, he, hm⟩ := own_EB h2 (by simp; omega) (by omega)
  unfold Oper.wp execOp
  simp only [ho, resolve, invoke, builtin, Sem.run_bind, Sem.run_pure, Result.andThen_ok, List.map_toArray, List.map_cons, List.map_nil, hs, hx, hrun]
  refine h ge cap w' hb he hm ?_ h3
  rcases h5 with h5 | h5
  · exact .inl h5
  · right
    have : some ge = some w.heap.size := h5
    injection this

theorem assert_entry (y1 y2 : Int) (w : World) : (Instr.typeAssert (.iface 77 (.agg #[.int .i64 y1, .int .i64 y2])) 20 77 false).run Tryd.prog w = .ok (.agg #[.int .i64 y1, .int .i64 y2]) w := by kernel_rfl

set_option maxHeartbeats 2000000 in
theorem push_any (g ge cap : Nat) (sp S1 S2 : Value) (l : List (Int × Int)) (y1 y2 : Int) (w : World) (h : PL w g ge cap sp S1 S2 l) (hn : l.length ≤ 4096) :
    Calls Tryd.prog 78 #[.pointer (some ⟨g, 3, none⟩), .iface 77 (.agg #[.int .i64 y1, .int .i64 y2])] w fun e w' => ∃ ge' cap', e = .returned (.tuple #[]) ∧ PL w' g ge' cap' sp S1 S2 (l ++ [(y1, y2)]) ∧ (ge' = ge ∨ w.heap.size ≤ ge') ∧ Chg w w' g ge := by
  have hlt := h.2.1.len
  have c3 : w.cell? ⟨g, 3, none⟩ = some (.slice (some ⟨ge, 0, none⟩) l.length cap) := h.1.at_ (i := 3) rfl
  have f3 := h.1.free 3
  have hgl := h.1.lt
  have HH := hide h
  have HN := hide hn
  obtain ⟨n, hnn⟩ : ∃ n, n = l.length := ⟨_, rfl⟩
  rw [← hnn] at c3 hlt hn
  have HNN := hide hnn.symm
  have hta := assert_entry y1 y2
  clear h hnn
  have hbA : Below w.heap.size w (w.alloc (.cells #[.int .i64 y1, .int .i64 y2] 77)) := (Below.refl _ _).alloc (Nat.le_refl _) _
  have HB := hide hbA
  have c3b : (w.alloc (.cells #[.int .i64 y1, .int .i64 y2] 77)).cell? ⟨g, 3, none⟩ = some (.slice (some ⟨ge, 0, none⟩) n cap) := (hbA.cell hgl).trans c3
  have HOWN := hide ((HH.out.2.1.block (hbA.block ge HH.out.2.1.lt_)).own (Nat.zero_le _) HH.out.2.2)
  rw [HNN.out] at HOWN
  clear hbA
  go_enter Tryd.func78, Tryd.ntmps78
  go_wp2_with fail
  go_region_law (first
      | (refine step_append_two _ rfl (.tmp 7) (.tmp 10) rfl 0 _ n l rfl HOWN.out HNN.out hn ⟨w.heap.size, 0, none⟩ y1 y2 rfl ?_ (Nat.zero_le _) ?_
         · intro j u hu
           rw [Addr.add_lit, Nat.zero_add]
           exact (Bk.new w 77 #[.int .i64 y1, .int .i64 y2]).at_ (by simpa using hu)
         intro ge' cap' w4 hb4 he4 hm4 hor4 hg4
         have hg4' : (w.alloc (.cells #[.int .i64 y1, .int .i64 y2] 77)).grownBy w4 (some ge) := ⟨hg4.os, hg4.tape, hg4.output, hg4.size, hg4.block⟩
         have hbk4 := (HH.out.1.below HB.out hgl).grown hg4' (fun e => HH.out.ne (by injection e))
         have q4 : w4.cell? ⟨g, 3, none⟩ = some (.slice (some ⟨ge, 0, none⟩) n cap) := (hbk4.at_ (i := 3) (u := .slice (some ⟨ge, 0, none⟩) l.length cap) rfl).trans (by rw [HNN.out])
         have f4 := hbk4.free 3))
  all_goals
    go_wp2_with fail
    go_end0
    have hne : g ≠ ge' := he4.ne hbk4
    refine ⟨ge', cap', rfl, ⟨?_, he4.block (Below.heap_setCell _ _ _ _ (Ne.symm hne)), hm4⟩, ?_, ?_⟩
    · have := hbk4.put 3 (.slice (some ⟨ge', 0, none⟩) (n + 1) cap')
      rw [show (l ++ [(y1, y2)]).length = n + 1 by simp [HNN.out]]
      exact this
    · rcases hor4 with h | h
      · left
        have : some ge' = some ge := h
        injection this
      · right
        rw [h]; simp
    · exact (((Chg.of_below HB.out g ge).trans (Chg.of_grown hg4' g)).trans (Chg.of_set w4 g ge 3 _))
end Go.Proofs.YthaoiilghphbiaaDoor.HeapW
