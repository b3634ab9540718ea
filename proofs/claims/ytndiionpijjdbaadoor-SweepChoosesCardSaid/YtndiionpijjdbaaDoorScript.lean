/- Opening a slice of structs of one-cell fields: what the form's readings say to the walks. open_slice_fields is the kit's block of extra-structs. -/
import Derived.Test.YtndiionpijjdbaaDoorBase
import Derived.Deep.Slices
import Derived.Deep.Fields
import Derived.ChangeSame
import Derived.ProofKit
import Derived.OpenShut
import Derived.SizedLaws
namespace Go.Proofs.YtndiionpijjdbaaDoor
open Go.ChangeShapes Go.WideShapes Go.Deep Go.RowKit

/-- n rows of k cells at A. -/
def RdS (w : World) (A : Option Addr) (n k : Nat) (V : Nat → Nat → Value) : Prop :=
  n = 0 ∨ ∃ b off, A = some ⟨b, off, none⟩ ∧ b < w.heap.size ∧ ∀ i j, i < n → j < k → w.cell? ⟨b, off + (i * k + j), none⟩ = some (V i j)
theorem RdS.keep {w w' : World} {A : Option Addr} {n k : Nat} {V : Nat → Nat → Value} (h : RdS w A n k V) (hk : ∀ q, q < w.heap.size → w'.heap[q]? = w.heap[q]?) (hs : w.heap.size ≤ w'.heap.size) : RdS w' A n k V := by
  rcases h with rfl | ⟨b, off, rfl, hb, hc⟩
  · exact .inl rfl
  · refine .inr ⟨b, off, rfl, by omega, fun i j hi hj => ?_⟩
    rw [World.cell?_of_block (w := w) (hk b hb)]
    exact hc i j hi hj
theorem RdS.below {w w' : World} {A : Option Addr} {n k : Nat} {V : Nat → Nat → Value} (h : RdS w A n k V) (hb : Below w.heap.size w w') : RdS w' A n k V := h.keep hb.block hb.size
theorem RdS.at_ {w : World} {A : Option Addr} {n k : Nat} {V : Nat → Nat → Value} (h : RdS w A n k V) {i : Nat} (hi : i < n) : ∃ b off, A = some ⟨b, off, none⟩ ∧ b < w.heap.size ∧ ∀ j, j < k → w.cell? ⟨b, off + (i * k + j), none⟩ = some (V i j) := by
  rcases h with rfl | ⟨b, off, rfl, hb, hc⟩
  · omega
  · exact ⟨b, off, rfl, hb, fun j hj => hc i j hi hj⟩

section
variable {H : Type} {enc : TypeId × Value → H} {P : Program} {w : World} {base : Nat} {spare : Nat → Bool} {held : Bool}
theorem open_slice_fields {t e : TypeId} {fs : Array Field} {fuel : Nat} {cs : List Value} {x : DataW H × List MemPlace} (ht : P.underlying t = some (.slice e)) (he : P.underlying e = some (.struct fs))
    (hone : oneCellFields P fs = true) (hC : P.cellsOf e = fs.size) (h : DataW.trod enc P w base spare held fuel t cs = some x) :
    (cs = [.slice none 0 0] ∧ x = (.nil, [])) ∨
    ∃ (a : Addr) (len cap m : Nat) (D : Nat → DataW H) (Pl : Nat → List MemPlace), cs = [.slice (some a) len cap] ∧ base ≤ a.block ∧ len ≤ cap ∧ cap ≤ maxLen ∧ m = (if spare a.block then cap else len) ∧
      x = (.slice ((List.range len).map D) ((List.range (m - len)).map fun j => D (len + j)), MemPlace.row a (m * fs.size) ++ (List.range m).flatMap Pl) ∧
      ∀ i, i < m → ∃ (ys : List (DataW H × List MemPlace)) (n : Nat), D i = .agg (ys.map (·.1)) ∧ Pl i = ys.flatMap (·.2) ∧ ys.length = fs.size ∧
        ∀ (j : Nat) (f : Field), fs[j]? = some f → ∃ (v : Value) (y : DataW H × List MemPlace), w.cell? (a.add (i * fs.size + j)) = some v ∧ ys[j]? = some y ∧ DataW.trod enc P w base spare held n f.type [v] = some y := by
  rcases open_slice ht h with h0 | ⟨a, len, cap, m, n, D, Pl, hcs, hb, hl, hm, hmm, hx, hi⟩
  · exact .inl h0
  · refine .inr ⟨a, len, cap, m, D, Pl, hcs, hb, hl, hm, hmm, by rw [hC] at hx; exact hx, fun i him => ?_⟩
    obtain ⟨cs', hc, ht'⟩ := hi i him
    rw [hC] at hc
    obtain ⟨ys, n', hn', hy, hlen, hyl, hf⟩ := DataW.trod_struct he ht'
    obtain ⟨_, hcl, hat⟩ := World.cells?_some hc
    simp only [Prod.mk.injEq] at hy
    refine ⟨ys, n', hy.1, hy.2, hyl, fun j f hj => ?_⟩
    obtain ⟨ho, hk⟩ := hone_of hone j f hj
    have hjl : j < fs.size := (Array.getElem?_eq_some_iff.1 hj).1
    have hcell := hat j hjl
    have hv : cs'[j]? = some (cs'[j]'(by omega)) := List.getElem?_eq_getElem (by omega)
    have h1 := hf j f hj
    rw [ho, hk] at h1
    have hone' : (cs'.drop j).take 1 = [cs'[j]'(by omega)] := by
      rw [List.drop_eq_getElem_cons (by omega)]
      rfl
    rw [hone'] at h1
    have hys : ys[j]? = some (ys[j]'(by omega)) := List.getElem?_eq_getElem (by omega)
    refine ⟨_, _, ?_, hys, h1.trans hys⟩
    rw [← Go.Deep.add_add, hcell, hv]

/-- The number in a cell, if there is one. -/
def cellInt (w : World) (a : Addr) : Int := match w.cell? a with
  | some (.int .i64 x) => if -9223372036854775808 ≤ x ∧ x ≤ 9223372036854775807 then x else 0
  | _ => 0
theorem cellInt_bounds (w : World) (a : Addr) : -9223372036854775808 ≤ cellInt w a ∧ cellInt w a ≤ 9223372036854775807 := by
  unfold cellInt
  split
  · split <;> omega
  · omega

/-- A slice of structs of ints that came in. -/
theorem open_introws {r : Reach} {b0 : Nat} {t e : TypeId} {fs : Array Field} {v : Value} {d : DataW H} {p : List MemPlace} (ht : P.underlying t = some (.slice e)) (he : P.underlying e = some (.struct fs))
    (hone : oneCellFields P fs = true) (hC : P.cellsOf e = fs.size) (hpos : 0 < fs.size) (hint : ∀ (j : Nat) f, fs[j]? = some f → P.underlying f.type = some (.int .i64))
    (hval : Value.okWide P w r b0 t v) (h : DataW.Trod enc P w 0 (fun _ => true) true t v d p) :
    ∃ (A : Option Addr) (n cap : Nat) (X : Nat → Nat → Int), v = .slice A n cap ∧ n ≤ cap ∧ cap ≤ maxLen ∧ (A = none → cap = 0) ∧ (∀ i j, -9223372036854775808 ≤ X i j ∧ X i j ≤ 9223372036854775807) ∧ RdS w A n fs.size (fun i j => .int .i64 (X i j)) := by
  obtain ⟨a0, len0, cap0, rfl⟩ := okWide_slice ht hval
  obtain ⟨fuel, hf⟩ := h
  rcases open_slice_fields ht he hone hC hf with ⟨hcs, -⟩ | ⟨a, len, cap, m, D, Pl, hcs, -, hl, hm, hmm, -, hi⟩
  · simp [Value.cells] at hcs
    obtain ⟨rfl, rfl, rfl⟩ := hcs
    exact ⟨none, 0, 0, fun _ _ => 0, rfl, Nat.le_refl _, by simp only [maxLen]; omega, fun _ => rfl, fun _ _ => ⟨by show (-9223372036854775808 : Int) ≤ 0; decide, by show (0 : Int) ≤ 9223372036854775807; decide⟩, .inl rfl⟩
  · simp [Value.cells] at hcs
    obtain ⟨rfl, rfl, rfl⟩ := hcs
    simp only [if_true] at hmm
    subst hmm
    refine ⟨some a, len0, m, fun i j => cellInt w (a.add (i * fs.size + j)), rfl, hl, hm, fun h => (by cases h), fun i j => cellInt_bounds w _, ?_⟩
    rcases Nat.eq_zero_or_pos len0 with h0 | h0
    · exact .inl h0
    · have hcell : ∀ i j, i < len0 → j < fs.size → w.cell? (a.add (i * fs.size + j)) = some (.int .i64 (cellInt w (a.add (i * fs.size + j)))) := by
        intro i j hi' hj
        obtain ⟨ys, n, -, -, -, hff⟩ := hi i (by omega)
        obtain ⟨v, y, hc, -, hty⟩ := hff j fs[j] (Array.getElem?_eq_getElem hj)
        obtain ⟨z, hz, -, hw⟩ := DataW.trod_int (hint j fs[j] (Array.getElem?_eq_getElem hj)) hty
        simp only [List.cons.injEq, and_true] at hz
        subst hz
        have hbd := bounds_i64 hw
        unfold cellInt
        rw [hc]
        simp only
        rw [if_pos hbd]
      obtain ⟨b, off, spot⟩ := a
      have hc0 := hcell 0 0 h0 hpos
      have hspot : spot = none := by simpa [Addr.add] using World.cell?_spot hc0
      subst hspot
      refine .inr ⟨b, off, rfl, ?_, fun i j hi' hj => ?_⟩
      · exact World.block_lt_of_cell? w _ (show w.cell? ⟨b, off + 0, none⟩ = _ by rw [Addr.add_lit] at hc0; simpa using hc0)
      · have := hcell i j hi' hj
        rw [Addr.add_lit] at this
        simpa only [Addr.add_lit] using this
end
end Go.Proofs.YtndiionpijjdbaaDoor
