/- The chip, plainly: what a call answers, and what it leaves. -/
import Derived.Test.YtbldjiofchaigaaDoorBase
set_option linter.unusedVariables false
namespace Go.Proofs.YtbldjiofchaigaaDoor.ChipP

structure Geo where
  d : Nat
  b : Nat
  p : Nat
  y : Nat
structure Geo.Ok (g : Geo) : Prop where
  d1 : 1 ≤ g.d
  d4 : g.d ≤ 4
  b1 : 1 ≤ g.b
  b16 : g.b ≤ 16
  p1 : 1 ≤ g.p
  p16 : g.p ≤ 16
  y8 : 8 ≤ g.y
  y256 : g.y ≤ 256
def Geo.n (g : Geo) : Nat := g.d * g.b
theorem Geo.Ok.n64 {g : Geo} (h : g.Ok) : g.n ≤ 64 := by
  unfold Geo.n
  have h1 := Nat.mul_le_mul h.d4 h.b16
  omega
theorem Geo.Ok.n1 {g : Geo} (h : g.Ok) : 1 ≤ g.n := Nat.mul_pos h.d1 h.b1
/-- A block: its pages, the next one, its wear, is it bad. -/
structure BS where
  pg : Nat → List UInt8
  nx : Nat
  wr : Nat
  bad : Bool
structure St where
  off : Bool
  blk : Nat → BS
def upd {α : Type} (f : Nat → α) (k : Nat) (v : α) : Nat → α := fun j => if j = k then v else f j
theorem upd_eq {α : Type} (f : Nat → α) (k : Nat) (v : α) : upd f k v k = v := if_pos rfl
theorem upd_ne {α : Type} (f : Nat → α) (k j : Nat) (v : α) (h : j ≠ k) : upd f k v j = f j := if_neg h
/-- What is wrong with a call on a block. -/
def atF (g : Geo) (s : St) (die k : Int) : Int := if s.off = true then 7 else if die < 0 ∨ (g.d : Int) ≤ die ∨ k < 0 ∨ (g.b : Int) ≤ k then 1 else 0
def ix (g : Geo) (die k : Int) : Nat := die.toNat * g.b + k.toNat
theorem at_zero {g : Geo} {s : St} {die k : Int} (h : atF g s die k = 0) : s.off = false ∧ 0 ≤ die ∧ die < g.d ∧ 0 ≤ k ∧ k < g.b := by
  unfold atF at h
  by_cases h1 : s.off = true
  · rw [if_pos h1] at h; omega
  · rw [if_neg h1] at h
    refine ⟨by simpa using h1, ?_⟩
    by_cases h2 : die < 0 ∨ (g.d : Int) ≤ die ∨ k < 0 ∨ (g.b : Int) ≤ k
    · rw [if_pos h2] at h; omega
    · omega
theorem ix_lt {g : Geo} {die k : Int} (h1 : 0 ≤ die) (h2 : die < g.d) (h3 : 0 ≤ k) (h4 : k < g.b) : ix g die k < g.n := by
  obtain ⟨D, rfl⟩ : ∃ D : Nat, die = D := ⟨die.toNat, by omega⟩
  obtain ⟨K, rfl⟩ : ∃ K : Nat, k = K := ⟨k.toNat, by omega⟩
  have hd : D + 1 ≤ g.d := by omega
  have hk : K < g.b := by omega
  have h5 := Nat.mul_le_mul_right g.b hd
  rw [Nat.add_mul, Nat.one_mul] at h5
  show D * g.b + K < g.d * g.b
  omega
theorem ix_inj {g : Geo} {die k die' k' : Int} (h1 : 0 ≤ die) (h3 : 0 ≤ k) (h4 : k < g.b) (h1' : 0 ≤ die') (h3' : 0 ≤ k') (h4' : k' < g.b) (h : ix g die k = ix g die' k') : die = die' ∧ k = k' := by
  obtain ⟨D, rfl⟩ : ∃ D : Nat, die = D := ⟨die.toNat, by omega⟩
  obtain ⟨K, rfl⟩ : ∃ K : Nat, k = K := ⟨k.toNat, by omega⟩
  obtain ⟨D', rfl⟩ : ∃ D' : Nat, die' = D' := ⟨die'.toNat, by omega⟩
  obtain ⟨K', rfl⟩ : ∃ K' : Nat, k' = K' := ⟨k'.toNat, by omega⟩
  have e : D * g.b + K = D' * g.b + K' := h
  have hb : 0 < g.b := by omega
  have hK : K < g.b := by omega
  have hK' : K' < g.b := by omega
  have e1 : (D * g.b + K) / g.b = D := by rw [Nat.add_comm, Nat.add_mul_div_right _ _ hb, Nat.div_eq_of_lt hK, Nat.zero_add]
  have e2 : (D' * g.b + K') / g.b = D' := by rw [Nat.add_comm, Nat.add_mul_div_right _ _ hb, Nat.div_eq_of_lt hK', Nat.zero_add]
  rw [e, e2] at e1
  subst e1
  have : K = K' := by omega
  exact ⟨rfl, by omega⟩
/-- What the end of a program or an erase says. -/
def endF (fault : Int) : Int := if fault = 1 then 6 else if fault = 2 then 7 else 0
/-- What lies in a page behind a program. -/
def mix (fault : Int) (l old : List UInt8) : List UInt8 := if fault = 0 then l else l.take (l.length / 2) ++ old.drop (l.length / 2)
def progF (g : Geo) (s : St) (die k page : Int) (n : Nat) (fault : Int) : Int :=
  if atF g s die k ≠ 0 then atF g s die k else if page < 0 ∨ (g.p : Int) ≤ page ∨ fault < 0 ∨ 2 < fault then 1 else if n ≠ g.y then 2 else if (s.blk (ix g die k)).bad = true then 6 else if page ≠ (s.blk (ix g die k)).nx then 5 else 0
def progB (b : BS) (page : Nat) (l : List UInt8) (fault : Int) : BS := { b with nx := b.nx + 1, pg := upd b.pg page (mix fault l (b.pg page)) }
def progS (g : Geo) (s : St) (die k page : Int) (l : List UInt8) (fault : Int) : St :=
  if progF g s die k page l.length fault ≠ 0 then s else ⟨decide (fault = 2), upd s.blk (ix g die k) (progB (s.blk (ix g die k)) page.toNat l fault)⟩
def progE (g : Geo) (s : St) (die k page : Int) (n : Nat) (fault : Int) : Int := if progF g s die k page n fault ≠ 0 then progF g s die k page n fault else endF fault
def erF (g : Geo) (s : St) (die k fault : Int) : Int :=
  if atF g s die k ≠ 0 then atF g s die k else if fault < 0 ∨ 2 < fault then 1 else if (s.blk (ix g die k)).bad = true then 6 else 0
def erB (g : Geo) (b : BS) (fault : Int) : BS :=
  if fault = 0 then ⟨fun _ => List.replicate g.y 255, 0, b.wr + 1, b.bad⟩ else if fault = 1 then { b with bad := true } else ⟨fun _ => List.replicate g.y 0, g.p, b.wr + 1, b.bad⟩
def erS (g : Geo) (s : St) (die k fault : Int) : St :=
  if erF g s die k fault ≠ 0 then s else ⟨decide (fault = 2), upd s.blk (ix g die k) (erB g (s.blk (ix g die k)) fault)⟩
def erE (g : Geo) (s : St) (die k fault : Int) : Int := if erF g s die k fault ≠ 0 then erF g s die k fault else endF fault
def onS (s : St) : St := { s with off := false }
/-- A new chip. -/
def newS (g : Geo) : St := ⟨false, fun _ => ⟨fun _ => List.replicate g.y 255, 0, 0, false⟩⟩
/-- What is wrong with a geometry. -/
def badG (d b p y : Int) : Prop := d < 1 ∨ 4 < d ∨ b < 1 ∨ 16 < b ∨ p < 1 ∨ 16 < p ∨ y < 8 ∨ 256 < y ∨ y % 8 ≠ 0
end Go.Proofs.YtbldjiofchaigaaDoor.ChipP
