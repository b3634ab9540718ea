/- A slice of calls on a chip that came in; a geometry. -/
import Derived.Test.YtbldjiofchaigaaDoorScript
import Derived.Test.YtbldjiofchaigaaDoorOpen
set_option linter.unusedVariables false
namespace Go.Proofs.YtbldjiofchaigaaDoor
open Go.ChangeShapes Go.WideShapes Go.Deep Go.RowKit

/-- One call as it reads. -/
structure COp where
  kind : Int
  die : Int
  blk : Int
  page : Int
  l : List UInt8
  A : Option Addr
  c : Nat
  fault : Int
def inI64 (x : Int) : Prop := -9223372036854775808 ≤ x ∧ x ≤ 9223372036854775807
/-- The cells of a call. -/
def copC (o : COp) : Array Value := #[.int .i64 o.kind, .int .i64 o.die, .int .i64 o.blk, .int .i64 o.page, .slice o.A o.l.length o.c, .int .i64 o.fault]
/-- n calls at A. -/
def RdC (w : World) (A : Option Addr) (n : Nat) (S : Nat → COp) : Prop :=
  ∀ i, i < n → ∃ b off, A = some ⟨b, off, none⟩ ∧ b < w.heap.size ∧ (∀ j u, (copC (S i))[j]? = some u → w.cell? ⟨b, off + i * 6 + j, none⟩ = some u) ∧ (S i).l.length ≤ (S i).c ∧ (S i).c ≤ 140737488351232 ∧ Rd w (S i).A (u8v (S i).l) ∧
    inI64 (S i).kind ∧ inI64 (S i).die ∧ inI64 (S i).blk ∧ inI64 (S i).page ∧ inI64 (S i).fault
theorem RdC.below {w w' : World} {A : Option Addr} {n : Nat} {S : Nat → COp} (h : RdC w A n S) (hb : Below w.heap.size w w') : RdC w' A n S := by
  intro i hi
  obtain ⟨b, off, h1, h2, h3, h4, h5, h6, h7⟩ := h i hi
  refine ⟨b, off, h1, Nat.lt_of_lt_of_le h2 hb.size, fun j u hj => ?_, h4, h5, h6.below hb, h7⟩
  rw [World.cell?_of_block (w := w) (hb.block b h2)]
  exact h3 j u hj

section
variable {H : Type} {enc : TypeId × Value → H} {P : Program} {w : World}
theorem weights_allC {e : TypeId} {l : List (DataW H)} {d : DataW H} (hd : d ∈ l) {n : Nat} (hn : n ∈ d.weights P e) : n ∈ DataW.weightsAll P e l := by
  induction l with
  | nil => cases hd
  | cons a l ih =>
    rw [DataW.weightsAll, List.mem_append]
    rcases List.mem_cons.1 hd with rfl | hd
    · exact .inl hn
    · exact .inr (ih hd)

/-- A geometry that came in, by value. -/
theorem open_geo {r : Reach} {b0 : Nat} {t te : TypeId} {fs : Field × Field × Field × Field} {v : Value} {d : DataW H} {p : List MemPlace}
    (hs : P.underlying t = some (.struct #[fs.1, fs.2.1, fs.2.2.1, fs.2.2.2])) (hone : oneCellFields P #[fs.1, fs.2.1, fs.2.2.1, fs.2.2.2] = true) (hC : P.cellsOf t = 4)
    (h1 : fs.1.type = te) (h2 : fs.2.1.type = te) (h3 : fs.2.2.1.type = te) (h4 : fs.2.2.2.type = te) (hi : P.underlying te = some (.int .i64))
    (hval : Value.okWide P w r b0 t v) (h : DataW.Trod enc P w 0 (fun _ => true) true t v d p) :
    ∃ (a b c e : Int), v = .agg #[.int .i64 a, .int .i64 b, .int .i64 c, .int .i64 e] ∧ inI64 a ∧ inI64 b ∧ inI64 c ∧ inI64 e := by
  obtain ⟨v0, v1, v2, v3, y0, y1, y2, y3, n, rfl, _, _, g0, g1, g2, g3⟩ := Go.Joins.open_agg4 hs hone hC hval h
  rw [h1] at g0
  rw [h2] at g1
  rw [h3] at g2
  rw [h4] at g3
  obtain ⟨a0, e0, _, w0⟩ := DataW.trod_int hi g0
  obtain ⟨a1, e1, _, w1⟩ := DataW.trod_int hi g1
  obtain ⟨a2, e2, _, w2⟩ := DataW.trod_int hi g2
  obtain ⟨a3, e3, _, w3⟩ := DataW.trod_int hi g3
  simp only [List.cons.injEq, and_true] at e0 e1 e2 e3
  subst e0 e1 e2 e3
  exact ⟨a0, a1, a2, a3, rfl, bounds_i64 w0, bounds_i64 w1, bounds_i64 w2, bounds_i64 w3⟩

/-- A slice of such calls that came in. -/
theorem open_cops {r : Reach} {b0 : Nat} {t e ti tb t8 : TypeId} {f0 f1 f2 f3 f4 f5 : Field} {v : Value} {d : DataW H} {p : List MemPlace} {ts : List TypeId} {ds : List (DataW H)} {jj : Nat} (ht : P.underlying t = some (.slice e)) (he : P.underlying e = some (.struct #[f0, f1, f2, f3, f4, f5]))
    (h0 : f0.type = ti) (h1 : f1.type = ti) (h2 : f2.type = ti) (h3 : f3.type = ti) (h4 : f4.type = tb) (h5 : f5.type = ti) (hone : oneCellFields P #[f0, f1, f2, f3, f4, f5] = true) (hC : P.cellsOf e = 6) (hBy : P.bytesOf e = 64) (hti : P.underlying ti = some (.int .i64)) (htb : P.underlying tb = some (.slice t8)) (ht8 : P.underlying t8 = some (.int .u8)) (hc8 : P.cellsOf t8 = 1) (hb8 : P.bytesOf t8 = 1)
    (hval : Value.okWide P w r b0 t v) (h : DataW.Trod enc P w 0 (fun _ => true) true t v d p) (hsz : (DataW.weightsEach P ts ds).all (· ≤ reachBytes) = true) (hts : ts[jj]? = some t) (hds : ds[jj]? = some d) :
    ∃ (A : Option Addr) (n cap : Nat) (S : Nat → COp), v = .slice A n cap ∧ n ≤ cap ∧ n * 64 ≤ 140737488351232 ∧ RdC w A n S := by
  obtain ⟨a0, len0, cap0, rfl⟩ := okWide_slice ht hval
  obtain ⟨fuel, hf⟩ := h
  rcases open_slice_fields ht he hone (by simpa using hC) hf with ⟨hcs, -⟩ | ⟨a, len, cap, m, D, Pl, hcs, -, hl, hm, hmm, hx, hi⟩
  · simp [Value.cells] at hcs
    obtain ⟨rfl, rfl, rfl⟩ := hcs
    exact ⟨none, 0, 0, fun _ => ⟨0, 0, 0, 0, [], none, 0, 0⟩, rfl, Nat.le_refl _, by omega, fun i hi => absurd hi (Nat.not_lt_zero i)⟩
  · simp [Value.cells] at hcs
    obtain ⟨rfl, rfl, rfl⟩ := hcs
    simp only [if_true] at hmm
    subst hmm
    simp only [Prod.mk.injEq] at hx
    obtain ⟨rfl, -⟩ := hx
    have hw0 := sized_slice hsz hts hds ht
    simp only [List.length_map, List.length_range, hBy, reachBytes] at hw0
    have hwj := DataW.weights_mem_each (P := P) hts hds
    have key : ∀ i, ∃ s : COp, i < len0 → ∃ b off, some a = some ⟨b, off, none⟩ ∧ b < w.heap.size ∧ (∀ j u, (copC s)[j]? = some u → w.cell? ⟨b, off + i * 6 + j, none⟩ = some u) ∧ s.l.length ≤ s.c ∧ s.c ≤ 140737488351232 ∧ Rd w s.A (u8v s.l) ∧
        inI64 s.kind ∧ inI64 s.die ∧ inI64 s.blk ∧ inI64 s.page ∧ inI64 s.fault := by
      intro i
      by_cases hlt : i < len0
      · obtain ⟨ys, nn, hD, -, hyl, hff⟩ := hi i (by omega)
        obtain ⟨u0, y0, c0, e0, t0⟩ := hff 0 f0 rfl
        obtain ⟨u1, y1, c1, e1, t1⟩ := hff 1 f1 rfl
        obtain ⟨u2, y2, c2, e2, t2⟩ := hff 2 f2 rfl
        obtain ⟨u3, y3, c3, e3, t3⟩ := hff 3 f3 rfl
        obtain ⟨u4, y4, c4, e4, t4⟩ := hff 4 f4 rfl
        obtain ⟨u5, y5, c5, e5, t5⟩ := hff 5 f5 rfl
        rw [h0] at t0
        rw [h1] at t1
        rw [h2] at t2
        rw [h3] at t3
        rw [h4] at t4
        rw [h5] at t5
        obtain ⟨z0, hz0, -, b0'⟩ := DataW.trod_int hti t0
        obtain ⟨z1, hz1, -, b1'⟩ := DataW.trod_int hti t1
        obtain ⟨z2, hz2, -, b2'⟩ := DataW.trod_int hti t2
        obtain ⟨z3, hz3, -, b3'⟩ := DataW.trod_int hti t3
        obtain ⟨z5, hz5, -, b5'⟩ := DataW.trod_int hti t5
        obtain ⟨A2, l2, n2, cap2, hcs2, hn2, hnc2, -, -, hr2, hx2⟩ := open_bytes_core htb ht8 hc8 t4
        simp only [List.cons.injEq, and_true] at hz0 hz1 hz2 hz3 hz5 hcs2
        subst hz0 hz1 hz2 hz3 hz5 hcs2
        obtain ⟨b, off, spot⟩ := a
        obtain ⟨ys', nn', -, -, -, hff'⟩ := hi 0 (by omega)
        obtain ⟨u0', y0', c0', -, -⟩ := hff' 0 f0 rfl
        have hspot : spot = none := by simpa [Addr.add] using World.cell?_spot c0'
        subst hspot
        have hsize : (#[f0, f1, f2, f3, f4, f5] : Array Field).size = 6 := rfl
        rw [hsize, Addr.add_lit] at c0 c1 c2 c3 c4 c5
        have hcap : cap2 ≤ 140737488351232 := by
          rcases hx2 with hx2 | ⟨el, sp, hx2, hlen⟩
          · omega
          · have hys : ys = [y0, y1, y2, y3, y4, y5] := by
              apply List.ext_getElem?
              intro q
              rcases q with _ | _ | _ | _ | _ | _ | q
              · exact e0
              · exact e1
              · exact e2
              · exact e3
              · exact e4
              · exact e5
              · rw [List.getElem?_eq_none (by rw [hyl, hsize]; omega), List.getElem?_eq_none (by simp)]
            have hin : (el.length + sp.length) * P.bytesOf t8 ∈ (D i).weights P e := by
              rw [hD, hys]
              simp only [DataW.weights, he]
              refine DataW.weights_mem_each (j := 4) (t := tb) (d := y4.1) (by simp [h4]) rfl _ ?_
              rw [hx2]
              simp [DataW.weights, htb]
            have hall : (el.length + sp.length) * P.bytesOf t8 ∈ DataW.weightsAll P e ((List.range len0).map D) := weights_allC (List.mem_map.2 ⟨i, List.mem_range.2 hlt, rfl⟩) hin
            have := List.all_eq_true.1 hsz _ (hwj ((el.length + sp.length) * P.bytesOf t8) (by simp only [DataW.weights, ht]; exact List.mem_cons_of_mem _ (List.mem_append_left _ hall)))
            rw [hb8] at this
            have h9 := of_decide_eq_true this
            simp only [reachBytes] at h9
            omega
        refine ⟨⟨z0, z1, z2, z3, l2, A2, cap2, z5⟩, fun _ => ⟨b, off, rfl, World.block_lt_of_cell? w _ c0, fun j u hj => ?_, by show l2.length ≤ cap2; omega, hcap, hr2, bounds_i64 b0', bounds_i64 b1', bounds_i64 b2', bounds_i64 b3', bounds_i64 b5'⟩⟩
        rw [hn2] at c4
        rw [Nat.add_assoc]
        unfold copC at hj
        rcases j with _ | _ | _ | _ | _ | _ | j
        · simp at hj; subst hj; exact c0
        · simp at hj; subst hj; exact c1
        · simp at hj; subst hj; exact c2
        · simp at hj; subst hj; exact c3
        · simp at hj; subst hj; exact c4
        · simp at hj; subst hj; exact c5
        · simp at hj
      · exact ⟨⟨0, 0, 0, 0, [], none, 0, 0⟩, fun h => absurd h hlt⟩
    obtain ⟨S, hS⟩ := Classical.axiomOfChoice key
    exact ⟨some a, len0, _, S, rfl, hl, by omega, fun i hi => hS i hi⟩
end
end Go.Proofs.YtbldjiofchaigaaDoor
