/- The walks of pool's entries (Len, Less, Swap, Push, Pop) and of container/heap over them. -/
import Derived.Test.YthaoiilghphbiaaDoorHeapPlain
import Derived.Test.YthaoiilghphbiaaDoorBase
import Derived.Test.YthaoiilghphbiaaDoorChecked
import Derived.WalkLawsBesides
set_option linter.unusedVariables false
namespace Go.Proofs.YthaoiilghphbiaaDoor.HeapW
open Go.RowKit HeapP

theorem nil_len (a : Addr) (w : World) : (nilAhead 247 79 (.pointer (some a)) "Len").run Tryd.prog w = .ok (some false) w := by kernel_rfl
theorem nil_less (a : Addr) (w : World) : (nilAhead 247 79 (.pointer (some a)) "Less").run Tryd.prog w = .ok (some false) w := by kernel_rfl
theorem nil_swap (a : Addr) (w : World) : (nilAhead 247 79 (.pointer (some a)) "Swap").run Tryd.prog w = .ok (some false) w := by kernel_rfl
theorem nil_push (a : Addr) (w : World) : (nilAhead 247 79 (.pointer (some a)) "Push").run Tryd.prog w = .ok (some false) w := by kernel_rfl
theorem nil_pop (a : Addr) (w : World) : (nilAhead 247 79 (.pointer (some a)) "Pop").run Tryd.prog w = .ok (some false) w := by kernel_rfl
theorem method_push (a : Addr) (w : World) : (method 247 79 (.pointer (some a)) "Push").run Tryd.prog w = .ok (78, .pointer (some a)) w := by kernel_rfl
theorem method_pop (a : Addr) (w : World) : (method 247 79 (.pointer (some a)) "Pop").run Tryd.prog w = .ok (77, .pointer (some a)) w := by kernel_rfl
theorem method_len0 (a : Addr) (w : World) : (method 247 79 (.pointer (some a)) "Len").run Tryd.prog w = (Sem.bind (loadVar 73 a) fun v => pure (74, v)).run Tryd.prog w := by kernel_rfl
theorem method_less0 (a : Addr) (w : World) : (method 247 79 (.pointer (some a)) "Less").run Tryd.prog w = (Sem.bind (loadVar 73 a) fun v => pure (75, v)).run Tryd.prog w := by kernel_rfl
theorem method_swap0 (a : Addr) (w : World) : (method 247 79 (.pointer (some a)) "Swap").run Tryd.prog w = (Sem.bind (loadVar 73 a) fun v => pure (76, v)).run Tryd.prog w := by kernel_rfl
theorem load_list (a : Addr) (w : World) (A : Option Addr) (n c : Nat) (h : w.cell? a = some (.slice A n c)) : (loadVar 73 a).run Tryd.prog w = .ok (.slice A n c) w := by
  have ha : (isAgg 73).run Tryd.prog w = .ok false w := by kernel_rfl
  unfold loadVar
  rw [Sem.run_bind, ha]
  simp [go_sem, h]
theorem method_len (a : Addr) (w : World) (A : Option Addr) (n c : Nat) (h : w.cell? a = some (.slice A n c)) : (method 247 79 (.pointer (some a)) "Len").run Tryd.prog w = .ok (74, .slice A n c) w := by
  rw [method_len0]
  show ((loadVar 73 a) >>= fun v => pure (74, v)).run Tryd.prog w = _
  rw [Sem.run_bind, load_list a w A n c h]
  rfl
theorem method_less (a : Addr) (w : World) (A : Option Addr) (n c : Nat) (h : w.cell? a = some (.slice A n c)) : (method 247 79 (.pointer (some a)) "Less").run Tryd.prog w = .ok (75, .slice A n c) w := by
  rw [method_less0]
  show ((loadVar 73 a) >>= fun v => pure (75, v)).run Tryd.prog w = _
  rw [Sem.run_bind, load_list a w A n c h]
  rfl
theorem method_swap (a : Addr) (w : World) (A : Option Addr) (n c : Nat) (h : w.cell? a = some (.slice A n c)) : (method 247 79 (.pointer (some a)) "Swap").run Tryd.prog w = .ok (76, .slice A n c) w := by
  rw [method_swap0]
  show ((loadVar 73 a) >>= fun v => pure (76, v)).run Tryd.prog w = _
  rw [Sem.run_bind, load_list a w A n c h]
  rfl

/-- The first cells of block ge are the pairs l. -/
def EB (w : World) (ge cap : Nat) (l : List (Int × Int)) : Prop :=
  ∃ cur, w.heap[ge]? = some (.cells cur 77 (0, 0)) ∧ cur.size = cap * 2 ∧ (∀ i, i < l.length → cur[i * 2]? = some (.int .i64 (el l i).1) ∧ cur[i * 2 + 1]? = some (.int .i64 (el l i).2)) ∧ l.length ≤ cap
section
variable {w w' : World} {ge cap : Nat} {l : List (Int × Int)}
theorem EB.lt_ (h : EB w ge cap l) : ge < w.heap.size := by
  obtain ⟨cur, h1, -⟩ := h
  exact (Array.getElem?_eq_some_iff.1 h1).1
theorem EB.len (h : EB w ge cap l) : l.length ≤ cap := by
  obtain ⟨cur, -, -, -, h⟩ := h
  exact h
theorem EB.cells (h : EB w ge cap l) {i : Nat} (hi : i < l.length) : w.cell? ⟨ge, i * 2, none⟩ = some (.int .i64 (el l i).1) ∧ w.cell? ⟨ge, i * 2 + 1, none⟩ = some (.int .i64 (el l i).2) := by
  obtain ⟨cur, h1, -, h3, -⟩ := h
  exact ⟨Bk.at_ (t := 77) h1 (h3 i hi).1, Bk.at_ (t := 77) h1 (h3 i hi).2⟩
theorem EB.free (h : EB w ge cap l) (k : Nat) : w.frozen? ⟨ge, k, none⟩ = false := by
  obtain ⟨cur, h1, -⟩ := h
  exact Bk.free (t := 77) h1 k
theorem EB.block (h : EB w ge cap l) (hb : w'.heap[ge]? = w.heap[ge]?) : EB w' ge cap l := by
  obtain ⟨cur, h1, r⟩ := h
  exact ⟨cur, hb.trans h1, r⟩
theorem EB.set0 (h : EB w ge cap l) {i : Nat} (hi : i < l.length) (x : Int) : EB (w.setCell ⟨ge, i * 2, none⟩ (.int .i64 x)) ge cap (l.set i (x, (el l i).2)) := by
  obtain ⟨cur, h1, h2, h3, h4⟩ := h
  refine ⟨cur.setIfInBounds (i * 2) (.int .i64 x), Bk.put (t := 77) h1 (i * 2) (.int .i64 x), by simpa using h2, fun k hk => ?_, by simpa using h4⟩
  rw [List.length_set] at hk
  obtain ⟨c1, c2⟩ := h3 k hk
  have e2 : (cur.setIfInBounds (i * 2) (.int .i64 x))[k * 2 + 1]? = cur[k * 2 + 1]? := Array.getElem?_setIfInBounds_ne (by omega)
  rw [e2, c2, el_set _ _ _ _ hi]
  by_cases e : i = k
  · subst e
    rw [Array.getElem?_setIfInBounds_self_of_lt (by omega), if_pos rfl]
    exact ⟨rfl, rfl⟩
  · rw [Array.getElem?_setIfInBounds_ne (by omega), c1, if_neg e]
    exact ⟨rfl, rfl⟩
theorem EB.set1 (h : EB w ge cap l) {i : Nat} (hi : i < l.length) (x : Int) : EB (w.setCell ⟨ge, i * 2 + 1, none⟩ (.int .i64 x)) ge cap (l.set i ((el l i).1, x)) := by
  obtain ⟨cur, h1, h2, h3, h4⟩ := h
  refine ⟨cur.setIfInBounds (i * 2 + 1) (.int .i64 x), Bk.put (t := 77) h1 (i * 2 + 1) (.int .i64 x), by simpa using h2, fun k hk => ?_, by simpa using h4⟩
  rw [List.length_set] at hk
  obtain ⟨c1, c2⟩ := h3 k hk
  have e2 : (cur.setIfInBounds (i * 2 + 1) (.int .i64 x))[k * 2]? = cur[k * 2]? := Array.getElem?_setIfInBounds_ne (by omega)
  rw [e2, c1, el_set _ _ _ _ hi]
  by_cases e : i = k
  · subst e
    rw [Array.getElem?_setIfInBounds_self_of_lt (by omega), if_pos rfl]
    exact ⟨rfl, rfl⟩
  · rw [Array.getElem?_setIfInBounds_ne (by omega), c2, if_neg e]
    exact ⟨rfl, rfl⟩
theorem EB.set (h : EB w ge cap l) {i : Nat} (hi : i < l.length) (x : Int × Int) : EB ((w.setCell ⟨ge, i * 2, none⟩ (.int .i64 x.1)).setCell ⟨ge, i * 2 + 1, none⟩ (.int .i64 x.2)) ge cap (l.set i x) := by
  have h1 := (h.set0 hi x.1).set1 (i := i) (by simpa using hi) x.2
  rw [List.set_set, el_set _ _ _ _ hi, if_pos rfl] at h1
  exact h1
theorem EB.swap (h : EB w ge cap l) {i j : Nat} (hi : i < l.length) (hj : j < l.length) :
    EB ((((w.setCell ⟨ge, i * 2, none⟩ (.int .i64 (el l j).1)).setCell ⟨ge, i * 2 + 1, none⟩ (.int .i64 (el l j).2)).setCell ⟨ge, j * 2, none⟩ (.int .i64 (el l i).1)).setCell ⟨ge, j * 2 + 1, none⟩ (.int .i64 (el l i).2)) ge cap (swp l i j) :=
  (h.set hi (el l j)).set (i := j) (by simpa using hj) (el l i)
end

theorem grown_drew {w w' : World} {row : Option Nat} (h : w.grownBy w' row) : w.grownBy w'.drew row := ⟨h.os, h.tape, h.output, h.size, h.block⟩
theorem grown_put {w w' : World} {g : Nat} (h : w.grownBy w' (some g)) (i : Nat) (u : Value) : w.grownBy (w'.setCell ⟨g, i, none⟩ u) (some g) :=
  ⟨h.os, h.tape, h.output, by simpa [World.setCell] using h.size, fun k hk hne => (Below.heap_setCell w' ⟨g, i, none⟩ u k (by rintro rfl; exact hne rfl)).trans (h.block k hk hne)⟩
theorem grown_trans {w w1 w2 : World} {row : Option Nat} (h : w.grownBy w1 row) (h2 : w1.grownBy w2 row) : w.grownBy w2 row :=
  ⟨h2.os.trans h.os, h2.tape.trans h.tape, h2.output.trans h.output, Nat.le_trans h.size h2.size, fun k hk hne => (h2.block k (Nat.lt_of_lt_of_le hk h.size) hne).trans (h.block k hk hne)⟩
theorem grown_below {w w' : World} {row : Option Nat} (h : Below w.heap.size w w') : w.grownBy w' row := ⟨h.os, h.tape, h.output, h.size, fun k hk _ => h.block k hk⟩

theorem len_any (A : Option Addr) (n c : Nat) (w : World) : Calls Tryd.prog 74 #[.slice A n c] w fun e w' => e = .returned (.int .i64 n) ∧ w = w' := by
  go_enter Tryd.func74, Tryd.ntmps74
  go_wp2
  go_ret
  exact ⟨rfl, rfl⟩

set_option maxHeartbeats 1000000 in
theorem less_any (ge cap i j : Nat) (l : List (Int × Int)) (w : World) (h : EB w ge cap l) (hi : i < l.length) (hj : j < l.length) (hl : l.length ≤ 4096) (r : Bool) (hr : r = decide (lt (el l i) (el l j))) :
    Calls Tryd.prog 75 #[.slice (some ⟨ge, 0, none⟩) l.length cap, .int .i64 i, .int .i64 j] w fun e w' => e = .returned (.bool r) ∧ Below w.heap.size w w' := by
  obtain ⟨p1, p2⟩ := h.cells hi
  obtain ⟨q1, q2⟩ := h.cells hj
  have hlen := h.len
  obtain ⟨a1, a2, ha⟩ : ∃ a1 a2, el l i = (a1, a2) := ⟨_, _, rfl⟩
  obtain ⟨b1, b2, hb⟩ : ∃ a1 a2, el l j = (a1, a2) := ⟨_, _, rfl⟩
  rw [ha] at p1 p2 hr
  rw [hb] at q1 q2 hr
  simp only [lt] at hr p1 p2 q1 q2
  obtain ⟨n, hn⟩ : ∃ n, n = l.length := ⟨_, rfl⟩
  rw [← hn] at hi hj hlen hl ⊢
  clear ha hb h hn
  by_cases h1 : a1 < b1
  · have d1 : decide (a1 < b1) = true := decide_eq_true h1
    have HR : Hid (r = true) := hide (by rw [hr]; exact decide_eq_true (.inl h1))
    clear hr
    go_enter Tryd.func75, Tryd.ntmps75
    go_wp2
    go_region
    go_wp2_with fail
    go_ret
    exact ⟨by rw [HR.out]; rfl, (Below.refl _ _).drew⟩
  have d1 : decide (a1 < b1) = false := decide_eq_false h1
  by_cases h2 : a1 = b1
  · have HR : Hid (r = decide (a2 < b2)) := hide (by rw [hr]; exact decide_eq_decide.2 (by omega))
    have d2 : (a1 == b1) = true := by simpa using h2
    clear hr h1 h2
    by_cases h3 : a2 < b2
    · have d3 : decide (a2 < b2) = true := decide_eq_true h3
      have HR2 : Hid (r = true) := hide (by rw [HR.out]; exact d3)
      go_enter Tryd.func75, Tryd.ntmps75
      go_wp2
      go_region
      go_wp2_with fail
      go_ret
      exact ⟨by rw [HR2.out]; rfl, (Below.refl _ _).drew⟩
    · have d3 : decide (a2 < b2) = false := decide_eq_false h3
      have HR2 : Hid (r = false) := hide (by rw [HR.out]; exact d3)
      go_enter Tryd.func75, Tryd.ntmps75
      go_wp2
      go_region
      go_wp2_with fail
      go_ret
      exact ⟨by rw [HR2.out]; rfl, (Below.refl _ _).drew⟩
  · have HR : Hid (r = false) := hide (by rw [hr]; exact decide_eq_false (by omega))
    have d2 : (a1 == b1) = false := by simpa using h2
    clear hr h1 h2
    go_enter Tryd.func75, Tryd.ntmps75
    go_wp2
    go_region
    go_wp2_with fail
    go_ret
    exact ⟨by rw [HR.out]; rfl, (Below.refl _ _).drew⟩

theorem swap_any (ge cap i j : Nat) (l : List (Int × Int)) (w : World) (h : EB w ge cap l) (hi : i < l.length) (hj : j < l.length) (hl : l.length ≤ 4096) :
    Calls Tryd.prog 76 #[.slice (some ⟨ge, 0, none⟩) l.length cap, .int .i64 i, .int .i64 j] w fun e w' => e = .returned (.tuple #[]) ∧ EB w' ge cap (swp l i j) ∧ w.grownBy w' (some ge) := by
  obtain ⟨p1, p2⟩ := h.cells hi
  obtain ⟨q1, q2⟩ := h.cells hj
  have hlen := h.len
  have HS := hide (h.swap hi hj)
  have f1 := h.free (i * 2)
  have f2 := h.free (i * 2 + 1)
  have f3 := h.free (j * 2)
  have f4 := h.free (j * 2 + 1)
  have g1 := ((h.set0 hi (el l j).1).cells (i := j) (by simpa using hj)).1
  have g2 := ((h.set hi (el l j)).cells (i := j) (by simpa using hj)).2
  have HE := hide h
  obtain ⟨a1, a2, ha⟩ : ∃ a1 a2, el l i = (a1, a2) := ⟨_, _, rfl⟩
  obtain ⟨b1, b2, hb⟩ : ∃ a1 a2, el l j = (a1, a2) := ⟨_, _, rfl⟩
  rw [ha] at p1 p2 HS
  rw [hb] at q1 q2 HS g1 g2
  simp only at p1 p2 q1 q2 HS g1 g2
  generalize (el (l.set i (b1, (el l i).2)) j).1 = y1 at g1
  generalize (el (l.set i (b1, b2)) j).2 = y2 at g2
  obtain ⟨n, hn⟩ : ∃ n, n = l.length := ⟨_, rfl⟩
  rw [← hn] at hi hj hlen hl ⊢
  clear ha hb h hn
  go_enter Tryd.func76, Tryd.ntmps76
  go_wp2
  go_region
  go_wp2_with fail
  go_end0
  refine ⟨rfl, HS.out, ?_⟩
  exact grown_drew (grown_put (grown_put (grown_put (grown_put (World.grownBy.refl w _) _ _) _ _) _ _) _ _)
end Go.Proofs.YthaoiilghphbiaaDoor.HeapW
