/- The cells of a list of ints; a row that 'make' lays. -/
import Derived.Test.YtndiionpijjdbaaDoorBase
import Derived.Test.YtndiionpijjdbaaDoorChecked
import Derived.Deep.OwnRows
namespace Go.Proofs.YtndiionpijjdbaaDoor.I64
open Go.RowKit

/-- The cells of a list of ints. -/
def i64v (l : List Int) : List Value := l.map fun x => .int .i64 x
theorem i64v_length (l : List Int) : (i64v l).length = l.length := by simp [i64v]
theorem i64v_at (l : List Int) (i : Nat) (h : i < l.length) : (i64v l).toArray[i]? = some (.int .i64 (l.getD i 0)) := by
  simp [i64v, h, List.getD]
theorem i64v_set (l : List Int) (i : Nat) (x : Int) : (i64v l).toArray.setIfInBounds i (.int .i64 x) = (i64v (l.set i x)).toArray := by simp [i64v, List.map_set]
theorem made_i64 (n : Nat) : madeCells #[.int .i64 0] n = (i64v (List.replicate n 0)).toArray := by
  apply Array.toList_inj.1
  rw [toList_madeCells_one]
  simp [i64v]
theorem int_info : (Tryd.prog.info? 3).map (fun i => (i.zero, i.size, i.bytes)) = some (some (.int .i64 0), 1, 8) := by kernel_rfl
theorem bk_ne {w : World} {g h : Nat} {t e : TypeId} {cs ds : Array Value} (h1 : Bk w g t cs) (h2 : Bk w h e ds) (hne : t ≠ e) : g ≠ h := by
  rintro rfl
  unfold Bk at h1 h2
  rw [h1] at h2
  injection h2 with h2
  injection h2 with _ ht
  exact hne ht
theorem getD_set_eq (l : List Int) (i : Nat) (x : Int) (h : i < l.length) : (l.set i x).getD i 0 = x := by
  simp [List.getD_eq_getElem?_getD, h]
theorem getD_set_ne (l : List Int) (i j : Nat) (x : Int) (h : i ≠ j) : (l.set i x).getD j 0 = l.getD j 0 := by
  simp [List.getD_eq_getElem?_getD, List.getElem?_set_ne h]
theorem getD_rep (n : Nat) (x : Int) (i : Nat) (h : i < n) : (List.replicate n x).getD i 0 = x := by
  simp [List.getD_eq_getElem?_getD, h]

/-- Nothing is written below B, and nothing from T on. -/
def Kept (B T : Nat) (w w' : World) : Prop := Below B w w' ∧ ∀ k, T ≤ k → k < w.heap.size → w'.heap[k]? = w.heap[k]?
theorem Kept.refl (B T : Nat) (w : World) : Kept B T w w := ⟨Below.refl _ _, fun _ _ _ => rfl⟩
theorem Kept.trans {B T : Nat} {a b c : World} (h : Kept B T a b) (k : Kept B T b c) : Kept B T a c :=
  ⟨h.1.trans k.1, fun q h1 h2 => (k.2 q h1 (Nat.lt_of_lt_of_le h2 h.1.size)).trans (h.2 q h1 h2)⟩
theorem Kept.drew {B T : Nat} {a w : World} (h : Kept B T a w) : Kept B T a w.drew := ⟨h.1.drew, h.2⟩
theorem Kept.setCell {B T : Nat} {w : World} {p : Addr} (h1 : B ≤ p.block) (h2 : p.block < T) (u : Value) : Kept B T w (w.setCell p u) :=
  ⟨(Below.refl _ _).setCell h1 u, fun k hk _ => Below.heap_setCell w p u k (by omega)⟩
theorem Kept.bk {B T o : Nat} {w w' : World} {t : TypeId} {cs : Array Value} (hk : Kept B T w w') (h : Bk w o t cs) (hT : T ≤ o) : Bk w' o t cs := (hk.2 o hT h.lt).trans h
end Go.Proofs.YtndiionpijjdbaaDoor.I64
