/- The walk of frame.get; what bytes.Count, bytes.Clone, bytes.Equal answer, in this seat's words. -/
import Derived.Test.YtmnhgpkbdiobkaaWord
import Derived.Test.YtmnhgpkbdiobkaaFramePlain
import Derived.Test.YtmnhgpkbdiobkaaShelf
set_option linter.unusedVariables false
namespace Go.Proofs.Ytmnhgpkbdiobkaa.GetW
open Go.RowKit Fram

set_option maxHeartbeats 1000000 in
theorem get_any (A : Option Addr) (l : List UInt8) (n cap : Nat) (w : World) (hn : n = l.length) (h0 : 0 < l.length) (h8 : l.length ≤ 8) (hr : Rd w A (u8v l)) :
    Calls Try.prog 34 #[.slice A n cap] w fun e w' => e = .returned (.int .u64 (leN l)) ∧ w = w' := by
  obtain ⟨b, off, rfl, _, hc⟩ := hr.form (by simp [u8v]; omega)
  simp only [u8v, List.getElem_map, List.length_map] at hc
  have HC := hide hc
  have HN := hide hn
  have hn8 : n ≤ 8 := by omega
  clear hc hn h8 h0
  go_enter Try.func34, Try.ntmps34
  go_wp2
  go_loop [2, 7] (fun c i => ∃ (k x : Nat), k ≤ n ∧ i = .int .i64 k ∧ c = .int .u64 x ∧ Hid (x = leN (l.take k))) (fun _ i => n - (intOf i).toNat)
  case atStart => exact ⟨0, 0, by omega, rfl, rfl, hide (by simp [leN])⟩
  case round =>
    obtain ⟨k, x, hk, rfl, rfl, HX⟩ := hrel
    by_cases hlt : k < n
    · have hin : k < l.length := by rw [← HN.out]; exact hlt
      have hck := HC.out k hin
      have hbd := l[k].toNat_lt
      have hlen : (l.take k).length = k := by simp; omega
      have hlx : x < 256 ^ k := by have := leN_lt (l.take k); rw [hlen] at this; rw [HX.out]; exact this
      have hor := WordW.or_byte x k l[k] (by omega) hlx
      have HN2 : Hid (x + l[k].toNat * 256 ^ k = leN (l.take (k + 1))) := by
        have e := leN_snoc (l.take k) l[k]
        rw [← List.take_succ_eq_append_getElem hin, hlen, ← HX.out] at e
        exact hide e.symm
      generalize x + l[k].toNat * 256 ^ k = y at hor HN2
      clear hlx hlen
      go_wp2
      go_round
      case rel => exact ⟨k + 1, y, by omega, by go_num, rfl, HN2⟩
      case measure => simp [intOf]; omega
    · go_wp2
      go_ret
      obtain rfl : k = n := by omega
      refine ⟨?_, rfl⟩
      rw [HX.out, List.take_of_length_le (by rw [← HN.out]; exact Nat.le_refl _)]
      rfl

/-- Bytes as the shelf's numbers. -/
def nums (l : List UInt8) : List Int := l.map fun x => (x.toNat : Int)
theorem nums_length (l : List UInt8) : (nums l).length = l.length := by simp [nums]
theorem bytesOf_nums (l : List UInt8) : Lib.bytesOf (nums l) = l := by
  unfold Lib.bytesOf nums
  rw [List.map_map]
  conv => rhs; rw [← List.map_id l]
  apply List.map_congr_left
  intro x _
  apply UInt8.toNat_inj.1
  simp [Function.comp]
theorem nums_cells (l : List UInt8) : (nums l).map (Value.int .u8) = u8v l := by
  unfold nums u8v
  rw [List.map_map]
  rfl
theorem rd_nums {w : World} {A : Option Addr} {l : List UInt8} (h : Rd w A (u8v l)) : ∀ ad, A = some ad → ∀ i, i < l.length → w.cell? (ad.add i) = some (.int .u8 ((nums l).getD i 0)) := by
  intro ad had i hi
  refine h.cells ad had i _ ?_
  rw [u8v_get l i hi]
  simp [nums, List.getD, hi]
theorem rd_in {w : World} {A : Option Addr} {l : List UInt8} (h : Rd w A (u8v l)) : Lib.BytesIn w A l.length (nums l) := by
  intro hn
  obtain ⟨b, o, rfl, _, hc⟩ := h.form (by rw [u8v_length]; exact hn)
  refine ⟨b, o, rfl, fun i hi => ?_⟩
  have := hc i (by rw [u8v_length]; exact hi)
  rw [this]
  simp [u8v, nums, List.getD, hi]

theorem count_any (A : Option Addr) (l : List UInt8) (n c g d : Nat) (w : World) (hn : n = l.length) (h0 : 0 < n) (hr : Rd w A (u8v l)) (hg : w.cell? ⟨g, 0, none⟩ = some (.int .u8 255)) :
    Calls Try.prog 33 #[.slice A n c, .slice (some ⟨g, 0, none⟩) 1 d] w fun e w' => e = .returned (.int .i64 ((l.count 255 : Nat) : Int)) ∧ w' = w := by
  subst hn
  obtain ⟨b, o, rfl, _, _⟩ := hr.form (by rw [u8v_length]; exact h0)
  have h := Try.bytes_Count_one_at ⟨b, o, none⟩ l.length c g 0 d (nums l) 255 w (nums_length l) (rd_nums hr _ rfl) hg
  rw [bytesOf_nums] at h
  exact h

theorem rd_far {w : World} {A : Option Addr} {xs : List Value} (h : Rd w A xs) {p : Addr} (u : Value) (hp : ∀ g o, A = some ⟨g, o, none⟩ → xs ≠ [] → g ≠ p.block) : Rd (w.setCell p u) A xs := by
  rcases h with rfl | ⟨b, off, rfl, hc⟩
  · exact .inl rfl
  · by_cases hx : xs = []
    · exact .inl hx
    · refine .inr ⟨b, off, rfl, fun i v hv => ?_⟩
      rw [World.cell?_of_block (w := w) (Below.heap_setCell w p u b (hp b off rfl hx))]
      exact hc i v hv

theorem clone_any (A : Option Addr) (l : List UInt8) (n c : Nat) (w : World) (hn : n = l.length) (hm : n ≤ 140737488355328) (hr : Rd w A (u8v l)) :
    Calls Try.prog 35 #[.slice A n c] w fun e w' => ∃ B c', e = .returned (.slice B n c') ∧ n ≤ c' ∧ Rd w' B (u8v l) ∧ Below w.heap.size w w' ∧ (∀ g o, B = some ⟨g, o, none⟩ → u8v l ≠ [] → w.heap.size ≤ g) := by
  subst hn
  cases A with
  | none =>
    have hl := hr.none_
    have hl0 : l.length = 0 := by rw [← u8v_length, hl]; rfl
    refine (Try.bytes_Clone_nil l.length c w).mono ?_
    rintro e w' ⟨rfl, rfl⟩
    exact ⟨none, 0, by rw [hl0], by omega, hr, Below.refl _ _, fun g o h => by cases h⟩
  | some ad =>
    refine (Try.bytes_Clone_at ad l.length c (nums l) w (nums_length l) hm (rd_nums hr ad rfl)).mono ?_
    rintro e w' ⟨v, rfl, ho, -, hb⟩
    rw [nums_cells] at ho
    obtain ⟨B, c', rfl, h1, _, h2, _, _⟩ := own_form ho
    refine ⟨B, c', rfl, h1, h2, hb, fun g o hB hne => ?_⟩
    have hpos : 0 < l.length := by
      rcases Nat.eq_zero_or_pos l.length with h | h
      · exact absurd (List.eq_nil_of_length_eq_zero (by rw [u8v_length]; exact h)) hne
      · exact h
    obtain ⟨g', hg', hle, _⟩ := own_at ho hpos
    rw [hB] at hg'
    injection hg' with hg'
    injection hg' with hg'
    rw [hg']
    exact hle

theorem equal_any (A B : Option Addr) (l m : List UInt8) (n k c d : Nat) (w : World) (hn : n = l.length) (hk : k = m.length) (h1 : Rd w A (u8v l)) (h2 : Rd w B (u8v m)) (r : Bool) (hr : r = decide (l = m)) :
    Calls Try.prog 36 #[.slice A n c, .slice B k d] w fun e w' => e = .returned (.bool r) ∧ w' = w := by
  subst hn hk
  have h := Try.bytes_Equal_all A B l.length c m.length d (nums l) (nums m) w (nums_length l) (nums_length m) (rd_in h1) (rd_in h2)
  rw [bytesOf_nums, bytesOf_nums] at h
  have e : (l == m) = r := by rw [hr]; by_cases h : l = m <;> simp [h]
  rwa [e] at h
end Go.Proofs.Ytmnhgpkbdiobkaa.GetW
