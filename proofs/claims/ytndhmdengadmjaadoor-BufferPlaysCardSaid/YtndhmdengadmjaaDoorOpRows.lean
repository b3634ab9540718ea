/- A slice of calls on a buffer (two ints and bytes each) that came in. -/
import Derived.Test.YtndhmdengadmjaaDoorScript
import Derived.Test.YtndhmdengadmjaaDoorOpen
set_option linter.unusedVariables false
namespace Go.Proofs.YtndhmdengadmjaaDoor
open Go.ChangeShapes Go.WideShapes Go.Deep Go.RowKit

/-- One call as it reads: two ints, bytes, and where they lie. -/
structure OpR where
  x : Int
  y : Int
  l : List UInt8
  A : Option Addr
  c : Nat

/-- n calls at A. -/
def RdO (w : World) (A : Option Addr) (n : Nat) (S : Nat → OpR) : Prop :=
  ∀ i, i < n → ∃ b off, A = some ⟨b, off, none⟩ ∧ b < w.heap.size ∧ w.cell? ⟨b, off + i * 3, none⟩ = some (.int .i64 (S i).x) ∧ w.cell? ⟨b, off + i * 3 + 1, none⟩ = some (.int .i64 (S i).y) ∧
    w.cell? ⟨b, off + i * 3 + 2, none⟩ = some (.slice (S i).A (S i).l.length (S i).c) ∧ (S i).l.length ≤ (S i).c ∧ (S i).c ≤ 140737488351232 ∧ Rd w (S i).A (u8v (S i).l) ∧
    (-9223372036854775808 ≤ (S i).x ∧ (S i).x ≤ 9223372036854775807) ∧ (-9223372036854775808 ≤ (S i).y ∧ (S i).y ≤ 9223372036854775807)

theorem RdO.below {w w' : World} {A : Option Addr} {n : Nat} {S : Nat → OpR} (h : RdO w A n S) (hb : Below w.heap.size w w') : RdO w' A n S := by
  intro i hi
  obtain ⟨b, off, h1, h2, h3, h4, h5, h6, h7, h8, h9⟩ := h i hi
  have hbl := hb.block b h2
  refine ⟨b, off, h1, Nat.lt_of_lt_of_le h2 hb.size, ?_, ?_, ?_, h6, h7, ?_, h9⟩
  · rw [World.cell?_of_block (w := w) hbl]; exact h3
  · rw [World.cell?_of_block (w := w) hbl]; exact h4
  · rw [World.cell?_of_block (w := w) hbl]; exact h5
  · exact h8.below hb

section
variable {H : Type} {enc : TypeId × Value → H} {P : Program} {w : World}
theorem weights_all {e : TypeId} {l : List (DataW H)} {d : DataW H} (hd : d ∈ l) {n : Nat} (hn : n ∈ d.weights P e) : n ∈ DataW.weightsAll P e l := by
  induction l with
  | nil => cases hd
  | cons a l ih =>
    rw [DataW.weightsAll, List.mem_append]
    rcases List.mem_cons.1 hd with rfl | hd
    · exact .inl hn
    · exact .inr (ih hd)

/-- A slice of such calls that came in. -/
theorem open_oprows {r : Reach} {b0 : Nat} {t e ti tb t8 : TypeId} {f0 f1 f2 : Field} {v : Value} {d : DataW H} {p : List MemPlace} {ts : List TypeId} {ds : List (DataW H)} {jj : Nat} (ht : P.underlying t = some (.slice e)) (he : P.underlying e = some (.struct #[f0, f1, f2]))
    (h0 : f0.type = ti) (h1 : f1.type = ti) (h2 : f2.type = tb) (hone : oneCellFields P #[f0, f1, f2] = true) (hC : P.cellsOf e = 3) (hBy : P.bytesOf e = 40) (hti : P.underlying ti = some (.int .i64)) (htb : P.underlying tb = some (.slice t8)) (ht8 : P.underlying t8 = some (.int .u8)) (hc8 : P.cellsOf t8 = 1) (hb8 : P.bytesOf t8 = 1)
    (hval : Value.okWide P w r b0 t v) (h : DataW.Trod enc P w 0 (fun _ => true) true t v d p) (hsz : (DataW.weightsEach P ts ds).all (· ≤ reachBytes) = true) (hts : ts[jj]? = some t) (hds : ds[jj]? = some d) :
    ∃ (A : Option Addr) (n cap : Nat) (S : Nat → OpR), v = .slice A n cap ∧ n ≤ cap ∧ n * 40 ≤ 140737488351232 ∧ RdO w A n S := by
  obtain ⟨a0, len0, cap0, rfl⟩ := okWide_slice ht hval
  obtain ⟨fuel, hf⟩ := h
  rcases open_slice_fields ht he hone (by simpa using hC) hf with ⟨hcs, -⟩ | ⟨a, len, cap, m, D, Pl, hcs, -, hl, hm, hmm, hx, hi⟩
  · simp [Value.cells] at hcs
    obtain ⟨rfl, rfl, rfl⟩ := hcs
    exact ⟨none, 0, 0, fun _ => ⟨0, 0, [], none, 0⟩, rfl, Nat.le_refl _, by omega, fun i hi => absurd hi (Nat.not_lt_zero i)⟩
  · simp [Value.cells] at hcs
    obtain ⟨rfl, rfl, rfl⟩ := hcs
    simp only [if_true] at hmm
    subst hmm
    simp only [Prod.mk.injEq] at hx
    obtain ⟨rfl, -⟩ := hx
    have hw0 := sized_slice hsz hts hds ht
    simp only [List.length_map, List.length_range, hBy, reachBytes] at hw0
    have hwj := DataW.weights_mem_each (P := P) hts hds
    have key : ∀ i, ∃ s : OpR, i < len0 → ∃ b off, some a = some ⟨b, off, none⟩ ∧ b < w.heap.size ∧ w.cell? ⟨b, off + i * 3, none⟩ = some (.int .i64 s.x) ∧ w.cell? ⟨b, off + i * 3 + 1, none⟩ = some (.int .i64 s.y) ∧
        w.cell? ⟨b, off + i * 3 + 2, none⟩ = some (.slice s.A s.l.length s.c) ∧ s.l.length ≤ s.c ∧ s.c ≤ 140737488351232 ∧ Rd w s.A (u8v s.l) ∧
        (-9223372036854775808 ≤ s.x ∧ s.x ≤ 9223372036854775807) ∧ (-9223372036854775808 ≤ s.y ∧ s.y ≤ 9223372036854775807) := by
      intro i
      by_cases hlt : i < len0
      · obtain ⟨ys, nn, hD, -, hyl, hff⟩ := hi i (by omega)
        obtain ⟨u0, y0, c0, e0, t0⟩ := hff 0 f0 rfl
        obtain ⟨u1, y1, c1, e1, t1⟩ := hff 1 f1 rfl
        obtain ⟨u2, y2, c2, e2, t2⟩ := hff 2 f2 rfl
        rw [h0] at t0
        rw [h1] at t1
        rw [h2] at t2
        obtain ⟨z0, hz0, -, hw0'⟩ := DataW.trod_int hti t0
        obtain ⟨z1, hz1, -, hw1'⟩ := DataW.trod_int hti t1
        obtain ⟨A2, l2, n2, cap2, hcs2, hn2, hnc2, -, -, hr2, hx2⟩ := open_bytes_core htb ht8 hc8 t2
        simp only [List.cons.injEq, and_true] at hz0 hz1 hcs2
        subst hz0 hz1 hcs2
        obtain ⟨ys', nn', -, -, -, hff'⟩ := hi 0 (by omega)
        obtain ⟨u0', y0', c0', -, -⟩ := hff' 0 f0 rfl
        obtain ⟨b, off, spot⟩ := a
        have hspot : spot = none := by simpa [Addr.add] using World.cell?_spot c0'
        subst hspot
        have hsize : (#[f0, f1, f2] : Array Field).size = 3 := rfl
        rw [hsize, Addr.add_lit] at c0 c1 c2
        have hcap : cap2 ≤ 140737488351232 := by
          rcases hx2 with hx2 | ⟨el, sp, hx2, hlen⟩
          · omega
          · have hys : ys = [y0, y1, y2] := by
              apply List.ext_getElem?
              intro q
              rcases q with _ | _ | _ | q
              · exact e0
              · exact e1
              · exact e2
              · rw [List.getElem?_eq_none (by rw [hyl, hsize]; omega), List.getElem?_eq_none (by simp)]
            have hin : (el.length + sp.length) * P.bytesOf t8 ∈ (D i).weights P e := by
              rw [hD, hys]
              simp only [DataW.weights, he]
              refine DataW.weights_mem_each (j := 2) (t := tb) (d := y2.1) (by simp [h2]) rfl _ ?_
              rw [hx2]
              simp [DataW.weights, htb]
            have hall : (el.length + sp.length) * P.bytesOf t8 ∈ DataW.weightsAll P e ((List.range len0).map D) := weights_all (List.mem_map.2 ⟨i, List.mem_range.2 hlt, rfl⟩) hin
            have := List.all_eq_true.1 hsz _ (hwj ((el.length + sp.length) * P.bytesOf t8) (by simp only [DataW.weights, ht]; exact List.mem_cons_of_mem _ (List.mem_append_left _ hall)))
            rw [hb8] at this
            have h9 := of_decide_eq_true this
            simp only [reachBytes] at h9
            omega
        refine ⟨⟨z0, z1, l2, A2, cap2⟩, fun _ => ⟨b, off, rfl, ?_, ?_, ?_, ?_, ?_, hcap, hr2, bounds_i64 hw0', bounds_i64 hw1'⟩⟩
        · exact World.block_lt_of_cell? w _ c0
        · simpa using c0
        · rw [Nat.add_assoc]; exact c1
        · rw [hn2] at c2; rw [Nat.add_assoc]; exact c2
        · show l2.length ≤ cap2; omega
      · exact ⟨⟨0, 0, [], none, 0⟩, fun h => absurd h hlt⟩
    obtain ⟨S, hS⟩ := Classical.axiomOfChoice key
    exact ⟨some a, len0, _, S, rfl, hl, by omega, fun i hi => hS i hi⟩
end
end Go.Proofs.YtndhmdengadmjaaDoor
