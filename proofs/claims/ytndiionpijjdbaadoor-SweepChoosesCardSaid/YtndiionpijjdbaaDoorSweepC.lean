/- The blocks in memory; the comparison that sweep.order hands to the sort. -/
import Derived.Test.YtndiionpijjdbaaDoorStabI
import Derived.WalkLawsBesides
set_option linter.unusedVariables false
namespace Go.Proofs.YtndiionpijjdbaaDoor.SwW
open Go.RowKit I64 Stab

/-- A block of which something is told. -/
structure Blk where
  u : Bool
  lv : Int
  wr : Int
def bcV (x : Blk) : Array Value := #[.bool x.u, .int .i64 x.lv, .int .i64 x.wr]
/-- n blocks at A, in memory below T. -/
def RdB (w : World) (A : Option Addr) (n : Nat) (S : Nat → Blk) (T : Nat) : Prop :=
  ∀ i, i < n → ∃ b off, A = some ⟨b, off, none⟩ ∧ b < T ∧ w.cell? ⟨b, off + i * 3, none⟩ = some (.bool (S i).u) ∧ w.cell? ⟨b, off + i * 3 + 1, none⟩ = some (.int .i64 (S i).lv) ∧ w.cell? ⟨b, off + i * 3 + 2, none⟩ = some (.int .i64 (S i).wr)
theorem RdB.below {w w' : World} {A : Option Addr} {n : Nat} {S : Nat → Blk} {T B : Nat} (h : RdB w A n S T) (hb : Below B w w') (hT : T ≤ B) : RdB w' A n S T := by
  intro i hi
  obtain ⟨b, off, h1, h2, h3, h4, h5⟩ := h i hi
  have hlt : b < B := by omega
  exact ⟨b, off, h1, h2, (hb.cell (p := ⟨b, _, none⟩) hlt).trans h3, (hb.cell (p := ⟨b, _, none⟩) hlt).trans h4, (hb.cell (p := ⟨b, _, none⟩) hlt).trans h5⟩
theorem RdB.mono {w : World} {A : Option Addr} {n : Nat} {S : Nat → Blk} {T T' : Nat} (h : RdB w A n S T) (hT : T ≤ T') : RdB w A n S T' := by
  intro i hi
  obtain ⟨b, off, h1, h2, h3⟩ := h i hi
  exact ⟨b, off, h1, by omega, h3⟩

def cmpv (x y : Int) : Int := if x < y then -1 else if y < x then 1 else 0
/-- The comparison: fewer live ones first, then less worn. -/
def ckey (S : Nat → Blk) (x y : Int) : Int := if cmpv (S x.toNat).lv (S y.toNat).lv ≠ 0 then cmpv (S x.toNat).lv (S y.toNat).lv else cmpv (S x.toNat).wr (S y.toNat).wr
theorem ckey_cmp (S : Nat → Blk) : Cmp (ckey S) := by
  constructor
  · intro x y
    unfold ckey cmpv
    generalize (S x.toNat).lv = a
    generalize (S y.toNat).lv = b
    generalize (S x.toNat).wr = c
    generalize (S y.toNat).wr = d
    by_cases h1 : a < b <;> by_cases h2 : b < a <;> by_cases h3 : c < d <;> by_cases h4 : d < c <;> simp [h1, h2, h3, h4] <;> omega
  · intro x y z
    unfold ckey cmpv
    generalize (S x.toNat).lv = a
    generalize (S y.toNat).lv = b
    generalize (S z.toNat).lv = e
    generalize (S x.toNat).wr = c
    generalize (S y.toNat).wr = d
    generalize (S z.toNat).wr = f
    intro k1 k2
    have k1' : a < b ∨ (a = b ∧ c ≤ d) := by
      by_cases h1 : a < b
      · exact .inl h1
      · by_cases h2 : b < a
        · simp [h1, h2] at k1
        · right
          refine ⟨by omega, ?_⟩
          by_cases h4 : d < c
          · simp [h1, h2, show ¬ c < d by omega, h4] at k1
          · omega
    have k2' : b < e ∨ (b = e ∧ d ≤ f) := by
      by_cases h1 : b < e
      · exact .inl h1
      · by_cases h2 : e < b
        · simp [h1, h2] at k2
        · right
          refine ⟨by omega, ?_⟩
          by_cases h4 : f < d
          · simp [h1, h2, show ¬ d < f by omega, h4] at k2
          · omega
    have k3 : a < e ∨ (a = e ∧ c ≤ f) := by omega
    rcases k3 with k3 | ⟨k3, k4⟩
    · simp [k3]
    · subst k3
      simp
      by_cases h5 : c < f
      · simp [h5]
      · simp [h5, show ¬ f < c by omega]

theorem nan_any (x : Int) (w : World) : Calls Tryd.prog 24 #[.int .i64 x] w fun e w' => e = .returned (.bool false) ∧ w = w' := by
  have t1 : (x != x) = false := by simp
  go_enter Tryd.func24, Tryd.ntmps24
  go_wp2_with fail
  go_ret
  exact ⟨rfl, rfl⟩
theorem compare_any (x y : Int) (w : World) : Calls Tryd.prog 21 #[.int .i64 x, .int .i64 y] w fun e w' => e = .returned (.int .i64 (cmpv x y)) ∧ w = w' := by
  unfold cmpv
  by_cases h1 : x < y
  · have d1 : decide (x < y) = true := decide_eq_true h1
    rw [if_pos h1]
    clear h1
    go_enter Tryd.func21, Tryd.ntmps21
    go_wp2_with fail
    refine (nan_any x w).mono ?_
    rintro e w' ⟨rfl, rfl⟩
    go_wp2_with fail
    refine (nan_any y w).mono ?_
    rintro e w' ⟨rfl, rfl⟩
    go_wp2_with fail
    go_ret
    exact ⟨rfl, rfl⟩
  · have d1 : decide (x < y) = false := decide_eq_false h1
    rw [if_neg h1]
    by_cases h2 : y < x
    · have d2 : decide (x > y) = true := decide_eq_true h2
      rw [if_pos h2]
      clear h1 h2
      go_enter Tryd.func21, Tryd.ntmps21
      go_wp2_with fail
      refine (nan_any x w).mono ?_
      rintro e w' ⟨rfl, rfl⟩
      go_wp2_with fail
      refine (nan_any y w).mono ?_
      rintro e w' ⟨rfl, rfl⟩
      go_wp2_with fail
      go_ret
      exact ⟨rfl, rfl⟩
    · have d2 : decide (x > y) = false := decide_eq_false h2
      rw [if_neg h2]
      clear h1 h2
      go_enter Tryd.func21, Tryd.ntmps21
      go_wp2_with fail
      refine (nan_any x w).mono ?_
      rintro e w' ⟨rfl, rfl⟩
      go_wp2_with fail
      refine (nan_any y w).mono ?_
      rintro e w' ⟨rfl, rfl⟩
      go_wp2_with fail
      go_ret
      exact ⟨rfl, rfl⟩
theorem or_any (a b : Int) (g : Nat) (w : World) (h0 : w.cell? ⟨g, 0, none⟩ = some (.int .i64 a)) (h1 : w.cell? ⟨g, 1, none⟩ = some (.int .i64 b)) :
    Calls Tryd.prog 20 #[.slice (some ⟨g, 0, none⟩) 2 2] w fun e w' => e = .returned (.int .i64 (if a ≠ 0 then a else b)) ∧ w = w' := by
  by_cases ha : a = 0
  · rw [if_neg (fun h => h ha)]
    subst ha
    by_cases hb : b = 0
    · subst hb
      go_enter Tryd.func20, Tryd.ntmps20
      go_wp2_with fail
      go_loop [8] (fun i => ∃ k : Nat, i = .int .i64 k ∧ k ≤ 2) (fun i => 2 - (intOf i).toNat)
      case atStart => exact ⟨0, rfl, by omega⟩
      case round =>
        obtain ⟨k, rfl, hk⟩ := hrel
        obtain h | h | h : k = 0 ∨ k = 1 ∨ k = 2 := by omega
        · subst h
          go_wp2_with fail
          go_round
          case rel => exact ⟨1, rfl, by omega⟩
          case measure => simp [intOf]
        · subst h
          go_wp2_with fail
          go_round
          case rel => exact ⟨2, rfl, by omega⟩
          case measure => simp [intOf]
        · subst h
          go_wp2_with fail
          go_ret
          exact ⟨rfl, rfl⟩
    · have hbb : (b != 0) = true := by simpa using hb
      clear hb
      go_enter Tryd.func20, Tryd.ntmps20
      go_wp2_with fail
      go_loop [8] (fun i => ∃ k : Nat, i = .int .i64 k ∧ k ≤ 1) (fun i => 2 - (intOf i).toNat)
      case atStart => exact ⟨0, rfl, by omega⟩
      case round =>
        obtain ⟨k, rfl, hk⟩ := hrel
        obtain h | h : k = 0 ∨ k = 1 := by omega
        · subst h
          go_wp2_with fail
          go_round
          case rel => exact ⟨1, rfl, by omega⟩
          case measure => simp [intOf]
        · subst h
          go_wp2_with fail
          go_ret
          exact ⟨rfl, rfl⟩
  · have haa : (a != 0) = true := by simpa using ha
    rw [if_pos ha]
    clear ha
    go_enter Tryd.func20, Tryd.ntmps20
    go_wp2_with fail
    go_loop [8] (fun i => i = .int .i64 0) (fun i => 0)
    case atStart => exact rfl
    case round =>
      obtain rfl := hrel
      go_wp2_with fail
      go_ret
      exact ⟨rfl, rfl⟩
end Go.Proofs.YtndiionpijjdbaaDoor.SwW
