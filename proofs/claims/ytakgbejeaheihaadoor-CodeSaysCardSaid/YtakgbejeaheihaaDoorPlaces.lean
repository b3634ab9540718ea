/- The walk of code.places: the seven masks. -/
import Derived.Test.YtakgbejeaheihaaDoorBase
import Derived.Test.YtakgbejeaheihaaDoorBits
namespace Go.Proofs.YtakgbejeaheihaaDoor.PlacesW
open Go.RowKit Pop

/-- The i-th number from 3 on that is no power of two. -/
def plc (i : Nat) : Nat := [3, 5, 6, 7, 9, 10, 11, 12, 13, 14, 15, 17, 18, 19, 20, 21, 22, 23, 24, 25, 26, 27, 28, 29, 30, 31, 33, 34, 35, 36, 37, 38, 39, 40, 41, 42, 43, 44, 45, 46, 47, 48, 49, 50, 51, 52, 53, 54, 55, 56, 57, 58, 59, 60, 61, 62, 63, 65, 66, 67, 68, 69, 70, 71].getD i 0
def hd : Nat → Nat | 0 => 3 | i + 1 => plc i + 1

/-- Mask j behind i rounds. -/
def mk (j : Nat) : Nat → Nat
  | 0 => 0
  | i + 1 => mk j i ||| ((plc i >>> j &&& 1) <<< i)

theorem skip_fact : ∀ i : Fin 64, ((popc 64 (hd i.val) = 1 ∧ plc i.val = hd i.val + 1) ∨ (popc 64 (hd i.val) ≠ 1 ∧ plc i.val = hd i.val)) ∧ popc 64 (plc i.val) ≠ 1 ∧ hd i.val ≤ 71 ∧ plc i.val ≤ 71 := by decide +kernel

/-- The row of masks: j of them are a round further. -/
def rowAt (i j : Nat) : Array Value := ((List.range 7).map fun t => Value.int .u64 (if t < j then mk t (i + 1) else mk t i : Nat)).toArray

theorem row_zero : rowAt 0 0 = #[.int .u64 0, .int .u64 0, .int .u64 0, .int .u64 0, .int .u64 0, .int .u64 0, .int .u64 0] := rfl
theorem hd_zero : hd 0 = 3 := rfl
theorem hd_succ (i : Nat) : hd (i + 1) = plc i + 1 := rfl
theorem mk_succ (j i : Nat) : mk j (i + 1) = mk j i ||| ((plc i >>> j &&& 1) <<< i) := rfl

theorem row_next (i : Nat) : rowAt i 7 = rowAt (i + 1) 0 := by
  unfold rowAt
  congr 1

theorem row_size (i j : Nat) : (rowAt i j).size = 7 := by simp [rowAt]

theorem row_get (i j : Nat) (h : j < 7) : (rowAt i j)[j]? = some (.int .u64 (mk j i : Nat)) := by
  simp [rowAt, h]

theorem row_step (i j : Nat) : (rowAt i j).setIfInBounds j (.int .u64 (mk j (i + 1) : Nat)) = rowAt i (j + 1) := by
  apply Array.ext (by simp [rowAt])
  intro t h1 h2
  simp only [Array.size_setIfInBounds, row_size] at h1
  rw [Array.getElem_setIfInBounds (by simpa [row_size] using h1)]
  by_cases e : j = t
  · subst e; simp [rowAt]
  · rw [if_neg e]
    simp only [rowAt, List.getElem_toArray, List.getElem_map, List.getElem_range]
    by_cases ht : t < j
    · rw [if_pos ht, if_pos (by omega)]
    · rw [if_neg ht, if_neg (by omega)]

theorem mk_lt (j i : Nat) : mk j i < 2 ^ i := by
  induction i with
  | zero => simp [mk]
  | succ i ih =>
    rw [mk_succ]
    have h1 : plc i >>> j &&& 1 ≤ 1 := Nat.and_le_right
    have h2 : (plc i >>> j &&& 1) <<< i ≤ 1 * 2 ^ i := by rw [Nat.shiftLeft_eq]; exact Nat.mul_le_mul_right _ h1
    exact Nat.or_lt_two_pow (by rw [Nat.pow_succ]; omega) (by rw [Nat.pow_succ]; omega)

/-- One more bit of a mask, as the program writes it. -/
theorem or_spelt (j i p : Nat) (hi : i < 64) (hp : p ≤ 71) (he : p = plc i) :
    bits .or .u64 (mk j i : Nat) (IntKind.u64.wrap (bits .and .u64 ((p : Int) / 2 ^ j) 1 * 2 ^ i)) = ((mk j (i + 1) : Nat) : Int) := by
  have hpow : (2 : Nat) ^ i ≤ 2 ^ 63 := Nat.pow_le_pow_right (by omega) (by omega)
  have hm := mk_lt j i
  have e1 : ((p : Int) / 2 ^ j) = ((p / 2 ^ j : Nat) : Int) := by simp
  have hle : p / 2 ^ j ≤ p := Nat.div_le_self _ _
  rw [e1, and_u64 (p / 2 ^ j) 1 _ 1 rfl rfl (by omega) (by omega)]
  have h1 : p / 2 ^ j &&& 1 ≤ 1 := Nat.and_le_right
  have h2 : (p / 2 ^ j &&& 1) * 2 ^ i ≤ 1 * 2 ^ i := Nat.mul_le_mul_right _ h1
  have e2 : (((p / 2 ^ j &&& 1 : Nat) : Int) * 2 ^ i) = (((p / 2 ^ j &&& 1) * 2 ^ i : Nat) : Int) := by simp
  rw [e2, IntKind.wrap_u64]
  have e3 : ((((p / 2 ^ j &&& 1) * 2 ^ i : Nat) : Int) % 18446744073709551616) = (((p / 2 ^ j &&& 1) * 2 ^ i : Nat) : Int) := by omega
  rw [e3, u64_or_nat _ _ (by omega) (by omega), mk_succ, ← he, Nat.shiftRight_eq_div_pow, Nat.shiftLeft_eq]

attribute [local irreducible] plc hd mk popc

theorem places_any (w : World) : Calls Tryd.prog 18 #[] w fun e w' =>
    e = .returned (.agg #[.int .u64 (mk 0 64), .int .u64 (mk 1 64), .int .u64 (mk 2 64), .int .u64 (mk 3 64), .int .u64 (mk 4 64), .int .u64 (mk 5 64), .int .u64 (mk 6 64)]) ∧ Below w.heap.size w w' := by
  have hb0 : Below w.heap.size w (w.alloc (.cells #[.int .u64 0, .int .u64 0, .int .u64 0, .int .u64 0, .int .u64 0, .int .u64 0, .int .u64 0] 46)) := (Below.refl _ _).alloc (Nat.le_refl _) _
  have hk0 : Bk (w.alloc (.cells #[.int .u64 0, .int .u64 0, .int .u64 0, .int .u64 0, .int .u64 0, .int .u64 0, .int .u64 0] 46)) w.heap.size 46 (rowAt 0 0) := by rw [row_zero]; exact Bk.new _ _ _
  go_enter Tryd.func18, Tryd.ntmps18
  go_wp2
  generalize w.alloc (.cells #[.int .u64 0, .int .u64 0, .int .u64 0, .int .u64 0, .int .u64 0, .int .u64 0, .int .u64 0] 46) = w0 at hb0 hk0
  generalize hg : w.heap.size = g at *
  have HG := hide hg
  clear hg
  go_loopw [1, 4] (fun p i wr => ∃ k : Nat, k ≤ 64 ∧ i = .int .i64 k ∧ p = .int .u64 (hd k) ∧ Bk wr g 46 (rowAt k 0) ∧ Below g w wr) (fun _ i _ => 64 - (intOf i).toNat)
  case atStart => exact ⟨0, by omega, rfl, by rw [hd_zero]; rfl, hk0, hb0⟩
  case round =>
    obtain ⟨i, hi, rfl, rfl, hk, hb⟩ := hrel
    by_cases hlt : i < 64
    · have hlt_i := hlt
      have l1 : hd i ≤ 71 := (skip_fact ⟨i, hlt⟩).2.2.1
      have l2 : plc i ≤ 71 := (skip_fact ⟨i, hlt⟩).2.2.2
      have hd1 : decide ((i : Int) < 64) = true := by simp; omega
      go_wp2
      go_loop [1] (fun v => ∃ p : Nat, p ≤ 71 ∧ v = .int .u64 p ∧ Hid (p = hd i ∨ p = plc i)) (fun v => plc i - (intOf v).toNat)
      case atStart => exact ⟨hd i, l1, rfl, hide (.inl rfl)⟩
      case round =>
        obtain ⟨p, hp, rfl, HP⟩ := hrel
        by_cases h1 : popc 64 p = 1
        · have ht : ((popc 64 p : Int) == 1) = true := by rw [h1]; rfl
          have hpp : Hid (p + 1 = plc i ∧ p < plc i) := by
            obtain ⟨hsk, hpl, -, -⟩ := skip_fact ⟨i, hlt⟩
            simp only at hsk hpl
            rcases HP.out with e | e
            · subst e
              rcases hsk with ⟨_, e2⟩ | ⟨e1, _⟩
              · exact hide ⟨e2.symm, by omega⟩
              · exact absurd h1 e1
            · subst e; exact absurd h1 hpl
          clear h1
          go_wp2_with (go_at_call 26; refine (BitsW.ones p (by omega) _).mono ?_; rintro e w' ⟨rfl, rfl⟩)
          go_round
          case rel => exact ⟨p + 1, by have := hpp.out; omega, by go_num, hide (.inr hpp.out.1)⟩
          case measure => have := hpp.out; simp [intOf]; omega
        · have ht : ((popc 64 p : Int) == 1) = false := by simp; omega
          have HE : Hid (p = plc i) := by
            obtain ⟨hsk, -, -, -⟩ := skip_fact ⟨i, hlt⟩
            simp only at hsk
            rcases HP.out with e | e
            · subst e
              rcases hsk with ⟨e1, _⟩ | ⟨_, e2⟩
              · exact absurd e1 h1
              · exact hide e2.symm
            · exact hide e
          clear h1
          go_wp2_with (go_at_call 26; refine (BitsW.ones p (by omega) _).mono ?_; rintro e w' ⟨rfl, rfl⟩)
          go_loopw [12] (fun v wr => ∃ j : Nat, j ≤ 7 ∧ v = .int .i64 j ∧ Bk wr g 46 (rowAt i j) ∧ Below g w wr) (fun v _ => 7 - (intOf v).toNat)
          case atStart => exact ⟨0, by omega, rfl, hk, hb⟩
          case round =>
            clear hk hb
            rename_i wq _
            obtain ⟨j, hj, rfl, hk, hb⟩ := hrel
            by_cases hlt : j < 7
            · have hc : wr.cell? ⟨g, j, none⟩ = some (.int .u64 (mk j i)) := hk.at_ (row_get i j hlt)
              have hf := hk.free j
              have hd2 : decide ((j : Int) < 7) = true := by simp; omega
              go_wp2
              go_region
              go_wp2
              go_roundw
              case rel =>
                have hv := or_spelt j i p hlt_i (by omega) HE.out
                rw [hv]
                exact ⟨j + 1, by omega, by go_num, by rw [← row_step]; exact (hk.put j _).drew, (hb.setCell (p := ⟨g, j, none⟩) (Nat.le_refl _) _).drew⟩
              case measure => simp [intOf]; omega
            · go_wp2
              go_roundw
              case rel =>
                obtain rfl : j = 7 := by omega
                exact ⟨i + 1, by omega, by go_num, by rw [hd_succ, ← HE.out]; go_num, by rw [← row_next]; exact hk, hb⟩
              case measure => simp [intOf]; omega
    · obtain rfl : i = 64 := by omega
      have c0 := hk.at_ (i := 0) (u := .int .u64 (mk 0 64 : Nat)) rfl
      have c1 := hk.at_ (i := 1) (u := .int .u64 (mk 1 64 : Nat)) rfl
      have c2 := hk.at_ (i := 2) (u := .int .u64 (mk 2 64 : Nat)) rfl
      have c3 := hk.at_ (i := 3) (u := .int .u64 (mk 3 64 : Nat)) rfl
      have c4 := hk.at_ (i := 4) (u := .int .u64 (mk 4 64 : Nat)) rfl
      have c5 := hk.at_ (i := 5) (u := .int .u64 (mk 5 64 : Nat)) rfl
      have c6 := hk.at_ (i := 6) (u := .int .u64 (mk 6 64 : Nat)) rfl
      have f0 := hk.free 0
      have f1 := hk.free 1
      have f2 := hk.free 2
      have f3 := hk.free 3
      have f4 := hk.free 4
      have f5 := hk.free 5
      have f6 := hk.free 6
      go_wp2
      have hbb := ((((((hb.setCell (p := ⟨g, 0, none⟩) (Nat.le_refl _) (.int .u64 (mk 0 64 : Nat))).setCell (p := ⟨g, 1, none⟩) (Nat.le_refl _) (.int .u64 (mk 1 64 : Nat))).setCell (p := ⟨g, 2, none⟩) (Nat.le_refl _) (.int .u64 (mk 2 64 : Nat))).setCell
        (p := ⟨g, 3, none⟩) (Nat.le_refl _) (.int .u64 (mk 3 64 : Nat))).setCell (p := ⟨g, 4, none⟩) (Nat.le_refl _) (.int .u64 (mk 4 64 : Nat))).setCell (p := ⟨g, 5, none⟩) (Nat.le_refl _) (.int .u64 (mk 5 64 : Nat))).setCell (p := ⟨g, 6, none⟩) (Nat.le_refl _) (.int .u64 (mk 6 64 : Nat))
      refine bodyPost_ret (v := .agg #[.int .u64 (mk 0 64), .int .u64 (mk 1 64), .int .u64 (mk 2 64), .int .u64 (mk 3 64), .int .u64 (mk 4 64), .int .u64 (mk 5 64), .int .u64 (mk 6 64)]) ?_ rfl ⟨rfl, by rw [HG.out]; exact hbb⟩
      clear hbb hb hk
      simp [results, Tryd.results18, go_sem, c0, c1, c2, c3, c4, c5, c6]
end Go.Proofs.YtakgbejeaheihaaDoor.PlacesW
