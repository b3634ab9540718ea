/- Opening a law's arguments: what the form's readings say to the walks. -/
import Derived.Test.YtbldjiofchaigaaDoorBase
import Derived.ProofKit
import Derived.OpenShut
import Derived.Carry
import Derived.SizedLaws
import Derived.Lib.SmallJoins
namespace Go.Proofs.YtbldjiofchaigaaDoor
open Go.ChangeShapes Go.WideShapes Go.ChangeAt Go.RowKit Go.Deep Go.Joins

section
variable {H : Type} {enc : TypeId × Value → H} {P : Program} {W : World} {t8 : TypeId}

/-- A slice of bytes that came in, as the reading has it. -/
theorem open_bytes_core {t e : TypeId} {fuel : Nat} {cs : List Value} {x : DataW H × List MemPlace} (ht : P.underlying t = some (.slice e)) (he : P.underlying e = some (.int .u8)) (hc : P.cellsOf e = 1)
    (hf : DataW.trod enc P W 0 (fun _ => true) true fuel t cs = some x) :
    ∃ (A : Option Addr) (l : List UInt8) (n cap : Nat), cs = [.slice A n cap] ∧ n = l.length ∧ n ≤ cap ∧ cap ≤ maxLen ∧ (A = none → cap = 0) ∧ Rd W A (u8v l) ∧ (cap = 0 ∨ ∃ el sp, x.1 = .slice el sp ∧ el.length + sp.length = cap) := by
  rcases open_ints ht he hc hf with ⟨rfl, _⟩ | ⟨x, len, cap, zs, rfl, _, hl, hm, hz, hx, hcell, hwz⟩
  · exact ⟨none, [], 0, 0, rfl, rfl, Nat.le_refl _, by simp only [maxLen]; omega, fun _ => rfl, Rd.nil _ _, .inl rfl⟩
  · have hzl : zs.length = cap := by simpa using hz
    refine ⟨some x, (zs.take len).map fun z => UInt8.ofNat z.toNat, len, cap, rfl, by simp; omega, hl, hm, fun h => (by cases h), ?_, .inr ⟨_, _, by rw [hx], by simp [lits]; omega⟩⟩
    rcases Nat.eq_zero_or_pos len with h0 | h0
    · subst h0; exact Rd.nil _ _
    · obtain ⟨b, off, spot⟩ := x
      have hc0 := hcell 0 (by omega)
      have hspot : spot = none := by simpa [Addr.add] using World.cell?_spot hc0
      subst hspot
      refine .inr ⟨b, off, rfl, fun i u hu => ?_⟩
      have hi : i < len := by
        have := (List.getElem?_eq_some_iff.1 hu).1
        simp only [u8v, List.length_map, List.length_take] at this
        omega
      have hci := hcell i (by omega)
      rw [Addr.add_lit] at hci
      rw [hci]
      have hwf := hwz (zs.getD i 0) (by rw [List.getD_eq_getElem?_getD, List.getElem?_eq_getElem (by omega)]; simp)
      have hbd : 0 ≤ zs.getD i 0 ∧ zs.getD i 0 ≤ 255 := bounds_u8 hwf
      simp only [u8v, List.map_map, List.getElem?_map, List.getElem?_take, if_pos hi, List.getElem?_eq_getElem (show i < zs.length by omega), Option.map_some, Option.some.injEq, Function.comp] at hu
      rw [← hu]
      have e : zs.getD i 0 = zs[i]'(by omega) := by simp [List.getD, show i < zs.length by omega]
      rw [e] at hbd ⊢
      congr 2
      rw [UInt8.toNat_ofNat']
      omega

/-- A slice of bytes that came in. -/
theorem open_bytes {r : Reach} {b0 : Nat} {t e : TypeId} {v : Value} {d : DataW H} {p : List MemPlace} {ts : List TypeId} {ds : List (DataW H)} {j : Nat}
    (ht : P.underlying t = some (.slice e)) (he : P.underlying e = some (.int .u8)) (hc : P.cellsOf e = 1) (hb : P.bytesOf e = 1)
    (hval : Value.okWide P W r b0 t v) (h : DataW.Trod enc P W 0 (fun _ => true) true t v d p) (hsz : (DataW.weightsEach P ts ds).all (· ≤ reachBytes) = true) (hts : ts[j]? = some t) (hds : ds[j]? = some d) :
    ∃ (A : Option Addr) (l : List UInt8) (n cap : Nat), v = .slice A n cap ∧ n = l.length ∧ n ≤ cap ∧ cap ≤ 140737488351232 ∧ (A = none → cap = 0) ∧ Rd W A (u8v l) := by
  obtain ⟨a0, len, cap, rfl⟩ := okWide_slice ht hval
  obtain ⟨fuel, hf⟩ := h
  obtain ⟨A, l, n, cap', hcs, hn, hnc, hm, hnil, hr, hx⟩ := open_bytes_core ht he hc hf
  simp [Value.cells] at hcs
  obtain ⟨rfl, rfl, rfl⟩ := hcs
  refine ⟨_, l, _, _, rfl, hn, hnc, ?_, hnil, hr⟩
  rcases hx with hx | ⟨el, sp, hx, hlen⟩
  · omega
  · have hw := sized_slice hsz hts (hds.trans (by rw [show d = .slice el sp from hx])) ht
    rw [hb] at hw
    simp only [reachBytes] at hw
    omega

/-- A frame that came in, by value. -/
theorem open_frame {r : Reach} {b0 : Nat} {t te tb : TypeId} {fs : Field × Field × Field × Field} {v : Value} {d : DataW H} {p : List MemPlace}
    (hs : P.underlying t = some (.struct #[fs.1, fs.2.1, fs.2.2.1, fs.2.2.2])) (hone : oneCellFields P #[fs.1, fs.2.1, fs.2.2.1, fs.2.2.2] = true) (hC : P.cellsOf t = 4)
    (h1 : fs.1.type = te) (h2 : fs.2.1.type = te) (h3 : fs.2.2.1.type = te) (h4 : fs.2.2.2.type = tb) (hi : P.underlying te = some (.int .i64)) (hb : P.underlying tb = some (.slice t8)) (he : P.underlying t8 = some (.int .u8)) (hc : P.cellsOf t8 = 1)
    (hval : Value.okWide P W r b0 t v) (h : DataW.Trod enc P W 0 (fun _ => true) true t v d p) :
    ∃ (k lba seq : Int) (A : Option Addr) (l : List UInt8) (m c : Nat), v = .agg #[.int .i64 k, .int .i64 lba, .int .i64 seq, .slice A m c] ∧ m = l.length ∧ m ≤ c ∧ c ≤ maxLen ∧ (A = none → c = 0) ∧ Rd W A (u8v l) ∧
      (-9223372036854775808 ≤ k ∧ k ≤ 9223372036854775807) ∧ (-9223372036854775808 ≤ lba ∧ lba ≤ 9223372036854775807) ∧ (-9223372036854775808 ≤ seq ∧ seq ≤ 9223372036854775807) := by
  obtain ⟨v0, v1, v2, v3, y0, y1, y2, y3, n, rfl, _, _, g0, g1, g2, g3⟩ := Go.Joins.open_agg4 hs hone hC hval h
  rw [h1] at g0
  rw [h2] at g1
  rw [h3] at g2
  rw [h4] at g3
  obtain ⟨a0, e0, _, w0⟩ := DataW.trod_int hi g0
  obtain ⟨a1, e1, _, w1⟩ := DataW.trod_int hi g1
  obtain ⟨a2, e2, _, w2⟩ := DataW.trod_int hi g2
  obtain ⟨A, l, m, c, e3, hm, hmc, hcm, hnil, hr, _⟩ := open_bytes_core hb he hc g3
  simp only [List.cons.injEq, and_true] at e0 e1 e2 e3
  subst e0 e1 e2 e3
  exact ⟨a0, a1, a2, A, l, m, c, rfl, hm, hmc, hcm, hnil, hr, bounds_i64 w0, bounds_i64 w1, bounds_i64 w2⟩
end
end Go.Proofs.YtbldjiofchaigaaDoor
