/- A frame and numbers that came in, told in the law's own world. -/
import Derived.Test.YtlaipigilikmbaaMa30
set_option linter.unusedVariables false
namespace Go.Proofs.Ytlaipigilikmbaa.Cl
open Go.ChangeShapes Go.WideShapes Go.ChangeAt Go.RowKit Go.Deep Go.Joins
open Go Go.Conc Go.Proofs.Ytlaipigilikmbaa.Co Go.Proofs.Ytlaipigilikmbaa.Ph Go.Proofs Go.Proofs.Ytlaipigilikmbaa
theorem pg_slice {w : World} {v : Value} {l : List UInt8} (h : PgAt w v l) : ∃ A n c, v = .slice A n c ∧ n = l.length ∧ Rd w A (u8v l) := by
  cases h with
  | nil => exact ⟨none, 0, 0, rfl, rfl, Rd.nil _ _⟩
  | zero a => exact ⟨some a, 0, 0, rfl, rfl, Rd.nil _ _⟩
  | @row b off n c l cs e fz hn h0 hc hm hb hl =>
    refine ⟨_, n, c, rfl, hn, .inr ⟨b, off, rfl, fun i u hu => ?_⟩⟩
    unfold u8v at hu
    rw [List.getElem?_map] at hu
    obtain ⟨x, h1, rfl⟩ := Option.map_eq_some_iff.1 hu
    unfold World.cell?
    simp only [hb]
    simpa using hl i x h1
section
variable {H : Type} {enc : TypeId × Value → H} {P : Program} {W : World}
theorem open_frame_l {r : Reach} {b0 : Nat} {t te tb t8 : TypeId} {fs : Field × Field × Field × Field} {v : Value} {d : DataW H} {p : List MemPlace}
    (hs : P.underlying t = some (.struct #[fs.1, fs.2.1, fs.2.2.1, fs.2.2.2])) (hone : oneCellFields P #[fs.1, fs.2.1, fs.2.2.1, fs.2.2.2] = true) (hC : P.cellsOf t = 4)
    (h1 : fs.1.type = te) (h2 : fs.2.1.type = te) (h3 : fs.2.2.1.type = te) (h4 : fs.2.2.2.type = tb) (hi : P.underlying te = some (.int .i64)) (hb : P.underlying tb = some (.slice t8)) (he : P.underlying t8 = some (.int .u8)) (hc : P.cellsOf t8 = 1)
    (hval : Value.okWide P W r b0 t v) (h : DataW.Trod enc P W 0 (fun _ => true) true t v d p) :
    ∃ (k lba seq : Int) (pv : Value) (l : List UInt8), v = .agg #[.int .i64 k, .int .i64 lba, .int .i64 seq, pv] ∧ PgAt W pv l := by
  obtain ⟨v0, v1, v2, v3, y0, y1, y2, y3, n, rfl, _, _, g0, g1, g2, g3⟩ := Go.Joins.open_agg4 hs hone hC hval h
  rw [h1] at g0
  rw [h2] at g1
  rw [h3] at g2
  rw [h4] at g3
  obtain ⟨a0, e0, _, w0⟩ := DataW.trod_int hi g0
  obtain ⟨a1, e1, _, w1⟩ := DataW.trod_int hi g1
  obtain ⟨a2, e2, _, w2⟩ := DataW.trod_int hi g2
  obtain ⟨pv, l, e3, hp⟩ := open_page hb he hc g3
  simp only [List.cons.injEq, and_true] at e0 e1 e2 e3
  subst e0 e1 e2 e3
  exact ⟨a0, a1, a2, _, l, rfl, hp⟩
theorem open_ints_l {r : Reach} {b0 : Nat} {t e : TypeId} {v : Value} {d : DataW H} {p : List MemPlace} (ht : P.underlying t = some (.slice e)) (he : P.underlying e = some (.int .i64)) (hc : P.cellsOf e = 1)
    (hval : Value.okWide P W r b0 t v) (h : DataW.Trod enc P W 0 (fun _ => true) true t v d p) :
    ∃ (A : Option Addr) (L c : Nat) (xs : List Int), v = .slice A L c ∧ L = xs.length ∧ L ≤ maxLen ∧ (∀ a, A = some a → told W a.block ∨ L = 0 ∧ c = 0) ∧ Rd W A (LwW.i64v xs) ∧ ∀ x ∈ xs, -9223372036854775808 ≤ x ∧ x ≤ 9223372036854775807 := by
  obtain ⟨a0, len0, cap0, rfl⟩ := okWide_slice ht hval
  obtain ⟨fuel, hf⟩ := h
  rcases open_ints ht he hc hf with ⟨hcs, _⟩ | ⟨a, len, cap, zs, hcs, _, hl, hm, hz, hx, hcell, hwz⟩
  · simp [Value.cells] at hcs
    obtain ⟨rfl, rfl, rfl⟩ := hcs
    exact ⟨none, 0, 0, [], rfl, rfl, Nat.zero_le _, (fun a e => by cases e), Rd.nil _ _, fun x hx => by cases hx⟩
  · simp [Value.cells] at hcs
    obtain ⟨rfl, rfl, rfl⟩ := hcs
    have hzl : zs.length = cap0 := by simpa using hz
    have hsp : 0 < cap0 → a.spot = none ∧ told W a.block := fun h0 => by
      have hc0 := hcell 0 (by omega)
      obtain ⟨b, off, spot⟩ := a
      have hspot : spot = none := by simpa [Addr.add] using World.cell?_spot hc0
      subst hspot
      rw [Addr.add_lit] at hc0
      exact ⟨rfl, told_cell hc0⟩
    refine ⟨some a, len0, cap0, zs.take len0, rfl, by simp; omega, Nat.le_trans hl hm, fun a' e => ?_, ?_, fun x hx => ?_⟩
    · cases e
      rcases Nat.eq_zero_or_pos cap0 with h0 | h0
      · exact .inr ⟨by omega, h0⟩
      · exact .inl (hsp h0).2
    · rcases Nat.eq_zero_or_pos len0 with h0 | h0
      · subst h0
        exact Rd.nil _ _
      · obtain ⟨b, off, spot⟩ := a
        obtain ⟨rfl, -⟩ := hsp (by omega)
        refine .inr ⟨b, off, rfl, fun i u hu => ?_⟩
        unfold LwW.i64v at hu
        rw [List.getElem?_map] at hu
        obtain ⟨x, h1, rfl⟩ := Option.map_eq_some_iff.1 hu
        have hi : i < len0 := by
          have := (List.getElem?_eq_some_iff.1 h1).1
          simp only [List.length_take] at this
          omega
        have hci := hcell i (by omega)
        rw [Addr.add_lit] at hci
        rw [List.getElem?_take, if_pos hi, List.getElem?_eq_getElem (by omega)] at h1
        cases h1
        rw [hci]
        simp [List.getD, show i < zs.length by omega]
    · exact bounds_i64 (hwz x (List.mem_of_mem_take hx))
end
end Go.Proofs.Ytlaipigilikmbaa.Cl
