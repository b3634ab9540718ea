/- The walk of granarylaw1.PoolEven: true, and nothing that was there is written. -/
import Derived.Test.YthaoiilghphbiaaPoolFact
import Derived.Test.YthaoiilghphbiaaPick
set_option linter.unusedVariables false
namespace Go.Proofs.Ythaoiilghphbiaa.PoolW
open Go.RowKit HeapP HeapW I64

theorem sum_set (l : List Int) (i : Nat) (x : Int) (h : i < l.length) : (l.set i x).sum = l.sum - l.getD i 0 + x := by
  induction l generalizing i with
  | nil => simp at h
  | cons a t ih =>
    cases i with
    | zero => simp; omega
    | succ i =>
      have := ih i (by simpa using h)
      simp only [List.set_cons_succ, List.sum_cons, List.getD_cons_succ, this]
      omega
theorem sum_take (l : List Int) (k : Nat) (hk : k < l.length) : (l.take (k + 1)).sum = (l.take k).sum + l.getD k 0 := by
  rw [List.take_succ_eq_append_getElem hk, List.sum_append]
  simp [List.getD, hk]
theorem sum_ge (l : List Int) (h : ∀ b, b < l.length → 0 ≤ l.getD b 0) : 0 ≤ l.sum ∧ ∀ b, b < l.length → l.getD b 0 ≤ l.sum := by
  induction l with
  | nil => exact ⟨by simp, fun b h => by simp at h⟩
  | cons a t ih =>
    have h0 := h 0 (by simp)
    obtain ⟨h1, h2⟩ := ih fun b hb => by simpa using h (b + 1) (by simpa using hb)
    simp only [List.getD_cons_zero] at h0
    refine ⟨by simp only [List.sum_cons]; omega, fun b hb => ?_⟩
    cases b with
    | zero => simp only [List.sum_cons, List.getD_cons_zero]; omega
    | succ b =>
      have := h2 b (by simpa using hb)
      simp only [List.sum_cons, List.getD_cons_succ]; omega

/-- Evenly worn, i in all. -/
def Ev (n : Nat) (wr : List Int) (i : Nat) : Prop := wr.length = n ∧ wr.sum = i ∧ ∃ q : Int, 0 ≤ q ∧ ∀ b, b < n → wr.getD b 0 = q ∨ wr.getD b 0 = q + 1
theorem ev_zero (n : Nat) : Ev n (List.replicate n 0) 0 := by
  refine ⟨by simp, ?_, 0, by omega, fun b hb => .inl (getD_rep _ _ _ hb)⟩
  induction n with
  | zero => rfl
  | succ n ih => rw [List.replicate_succ, List.sum_cons, ih]; rfl
theorem ev_step {n i b : Nat} {wr : List Int} (h : Ev n wr i) (hb : b < n) (hmin : ∀ k : Nat, k < n → ¬ lt (wr.getD k 0, (k : Int)) (wr.getD b 0, (b : Int))) : Ev n (wr.set b (wr.getD b 0 + 1)) (i + 1) := by
  obtain ⟨h1, h2, q, hq0, hq⟩ := h
  refine ⟨by simpa using h1, by rw [sum_set _ _ _ (by omega), h2]; omega, ?_⟩
  rcases hq b hb with e | e
  · refine ⟨q, hq0, fun k hk => ?_⟩
    by_cases hkb : b = k
    · subst hkb; rw [I64.getD_set_eq _ _ _ (by omega)]; omega
    · rw [I64.getD_set_ne _ _ _ _ hkb]; exact hq k hk
  · refine ⟨q + 1, by omega, fun k hk => ?_⟩
    by_cases hkb : b = k
    · subst hkb; rw [I64.getD_set_eq _ _ _ (by omega)]; omega
    · rw [I64.getD_set_ne _ _ _ _ hkb]
      have := hmin k hk
      unfold lt at this
      simp only at this
      have := hq k hk
      omega
theorem ev_bounds {n i : Nat} {wr : List Int} (h : Ev n wr i) : ∃ q : Int, 0 ≤ q ∧ (0 < n → q ≤ i) ∧ ∀ b, b < n → q ≤ wr.getD b 0 ∧ wr.getD b 0 ≤ q + 1 ∧ wr.getD b 0 ≤ i := by
  obtain ⟨h1, h2, q, hq0, hq⟩ := h
  have hs := sum_ge wr fun b hb => by have := hq b (by omega); omega
  refine ⟨q, hq0, fun hn => ?_, fun b hb => ?_⟩
  · have := hs.2 0 (by omega)
    have := hq 0 hn
    omega
  · have := hs.2 b (by omega)
    have := hq b hb
    omega
theorem fcode_give {n : Nat} {sp : Int} {st : List Int} {b : Nat} (h : ((st.count 2 : Nat) : Int) ≤ sp) (hb : b < n) (h1 : st.getD b 0 = 1) : fcode n sp st b = 0 := by
  unfold fcode
  rw [if_neg (by omega), if_neg (by omega), Int.toNat_natCast, if_pos h1]
theorem rep_back (n b : Nat) : ((List.replicate n (0 : Int)).set b 1).set b 0 = List.replicate n 0 := by
  rw [List.set_set]
  apply List.ext_getElem (by simp)
  intro k h1 h2
  by_cases e : b = k
  · subst e; simp
  · simp
theorem rep_one (n b : Nat) : ((List.replicate n (0 : Int)).set b 1).count 2 = 0 := by
  rw [List.count_eq_zero]
  intro h
  rcases List.mem_or_eq_of_mem_set h with h | h
  · have := List.eq_of_mem_replicate h; omega
  · omega

attribute [local irreducible] swp el lt EB Hp flat zeros fcode PoolAt Ev

set_option maxRecDepth 100000 in
set_option maxHeartbeats 4000000 in
theorem even_law (w : World) (x0 : Int) (a0 : -9223372036854775808 ≤ x0) (b0 : x0 ≤ 9223372036854775807) (x1 : Int) (a1 : -9223372036854775808 ≤ x1) (b1 : x1 ≤ 9223372036854775807) (x2 : Int) (a2 : -9223372036854775808 ≤ x2) (b2 : x2 ≤ 9223372036854775807) :
    Calls Try.prog 3 #[.int .i64 x0, .int .i64 x1, .int .i64 x2] w fun e w' => e = .returned (.bool true) ∧ Below w.heap.size w w' := by
  go_enter Try.func3, Try.ntmps3
  go_wp2_with fail
  refine (poolFact_any _).mono ?_
  rintro e w1 ⟨rfl, hb1⟩
  by_cases hr : x0 < 1 ∨ 64 < x0 ∨ x1 < 0 ∨ x0 < x1
  · go_wp2_with fail
    refine (new_range x0 x1 _ hr).mono ?_
    rintro e w2 ⟨rfl, rfl⟩
    unfold errV
    go_wp2_with fail
    go_ret
    exact ⟨rfl, hb1⟩
  obtain ⟨n, rfl⟩ := Int.eq_ofNat_of_zero_le (show 0 ≤ x0 by omega)
  have hn : 0 < n ∧ n ≤ 64 := by omega
  have hs : 0 ≤ x1 ∧ x1 ≤ n := by omega
  clear hr
  go_wp2_with fail
  refine (new_ok n x1 hn.1 hn.2 hs.1 hs.2 0 0 _ (by omega)).mono ?_
  rintro e w2 ⟨g, rfl, hp2, hb2⟩
  have hw2 := hb1.trans (hb2.mono hb1.size)
  have hsz := hb1.size
  obtain ⟨B, hB⟩ : ∃ B, B = w1.heap.size := ⟨_, rfl⟩
  rw [← hB] at hp2 hsz
  clear hb1 hb2 hB
  go_wp2_with fail
  refine (pick_any x2 400 _ rfl (by omega) (by omega) a2 b2 _).mono ?_
  rintro e w3 ⟨rfl, rfl⟩
  have hkl := pickN_lt x2 400 (by omega)
  generalize pickN x2 400 = k at hkl
  go_wp2_with fail
  go_loopw [11] (fun i wr' => ∃ (j : Nat) (wear : List Int), i = .int .i64 j ∧ j ≤ k ∧ Ev n wear j ∧ PoolAt wr' B 0 0 g n x1 (List.replicate n 0) wear ∧ Below w.heap.size w wr') (fun i _ => k - (intOf i).toNat)
  case atStart => exact ⟨0, _, rfl, by omega, ev_zero n, hp2, hw2⟩
  case round =>
    clear hp2 hw2
    obtain ⟨j, wear, rfl, hj, hev, hp, hb⟩ := hrel
    have HEV := hide hev
    clear hev
    by_cases hlt : j < k
    · go_wp2_with fail
      refine (take_any B 0 0 g n x1 _ wear _ hp).mono ?_
      rintro e w4 ⟨hk4, ⟨h, -⟩ | ⟨-, h, -⟩ | ⟨-, b, hbn, hb0, hmin, rfl, hp4⟩⟩
      · rw [show (List.replicate n (0 : Int)).count 2 = 0 from List.count_eq_zero.2 fun h => by have := List.eq_of_mem_replicate h; omega] at h
        omega
      · exact absurd (getD_rep _ _ _ hn.1) (h 0 hn.1)
      have hev2 := ev_step HEV.out hbn fun q hq => hmin q hq (getD_rep _ _ _ hq)
      have HE2 := hide hev2
      obtain ⟨q, hq0, -, hqb⟩ := ev_bounds HEV.out
      have hwb := hqb b hbn
      have HF : Hid (fcode n x1 ((List.replicate n 0).set b 1) (b : Int) = 0) := hide (fcode_give (by rw [rep_one]; omega) hbn (I64.getD_set_eq _ _ _ (by simpa using hbn)))
      have hw4 := hb.trans (hk4.1.mono hsz)
      clear hmin hev2 hb0 hp hk4 hqb
      go_wp2_with fail
      refine (give_any B 0 0 g n x1 _ wear b _ hp4 (Nat.zero_le _) (by rw [Int.toNat_natCast]; omega) (by rw [Int.toNat_natCast]; omega)).mono ?_
      rintro e w5 ⟨hk5, ⟨-, rfl, hp5⟩ | ⟨c, hc, hc0, -⟩⟩
      rotate_left
      · exact absurd (hc.symm.trans HF.out) hc0
      rw [Int.toNat_natCast, rep_back] at hp5
      have hw5 := hw4.trans (hk5.1.mono hsz)
      go_wp2_with fail
      go_roundw
      case rel => exact ⟨j + 1, _, by go_num, by omega, HE2.out, hp5, hw5⟩
      case measure => simp [intOf]; omega
    · obtain rfl : j = k := by omega
      obtain ⟨q, hq0, hqj, hqb⟩ := ev_bounds HEV.out
      have hqj' := hqj hn.1
      have HQB := hide hqb
      have HLE : Hid (wear.length = n ∧ wear.sum = j) := hide (by have := HEV.out; unfold Ev at this; exact ⟨this.1, this.2.1⟩)
      clear hqb hqj hlt
      go_wp2_with fail
      go_loop [14, 15, 16, 17] (fun lo hi su b => ∃ (k : Nat) (a c s : Int), b = .int .i64 k ∧ lo = .int .i64 a ∧ hi = .int .i64 c ∧ su = .int .i64 s ∧ k ≤ n ∧ q ≤ a ∧ a ≤ j ∧ 0 ≤ c ∧ c ≤ q + 1 ∧ 0 ≤ s ∧ s ≤ 400 * k ∧ Hid (s = (wear.take k).sum)) (fun _ _ _ b => n - (intOf b).toNat)
      case atStart => exact ⟨0, j, 0, 0, rfl, rfl, rfl, rfl, by omega, by omega, by omega, by omega, by omega, by omega, by omega, hide (by simp)⟩
      case round =>
        obtain ⟨k, a, c, s, rfl, rfl, rfl, rfl, hk, ha1, ha2, hc1, hc2, hs1, hs2, HS⟩ := hrel
        by_cases hlt : k < n
        · have hv := HQB.out k hlt
          have hst := sum_take wear k (by rw [HLE.out.1]; exact hlt)
          rw [← HS.out] at hst
          obtain ⟨v, hv'⟩ : ∃ v, wear.getD k 0 = v := ⟨_, rfl⟩
          rw [hv'] at hv hst
          have HV := hide hv'
          have HST := hide hst
          clear hv' hst
          by_cases h1 : v < a
          · by_cases h2 : c < v
            · go_wp2_with fail
              refine (worn_ok B 0 0 g n k x1 _ wear _ hp hlt v HV.out).mono ?_
              rintro e w6 ⟨rfl, rfl⟩
              go_wp2_with fail
              go_round
              case rel => exact ⟨k + 1, v, v, s + v, by go_num, rfl, rfl, rfl, by omega, by omega, by omega, by omega, by omega, by omega, by omega, hide HST.out.symm⟩
              case measure => simp [intOf]; omega
            · go_wp2_with fail
              refine (worn_ok B 0 0 g n k x1 _ wear _ hp hlt v HV.out).mono ?_
              rintro e w6 ⟨rfl, rfl⟩
              go_wp2_with fail
              go_round
              case rel => exact ⟨k + 1, v, c, s + v, by go_num, rfl, rfl, rfl, by omega, by omega, by omega, by omega, by omega, by omega, by omega, hide HST.out.symm⟩
              case measure => simp [intOf]; omega
          · by_cases h2 : c < v
            · go_wp2_with fail
              refine (worn_ok B 0 0 g n k x1 _ wear _ hp hlt v HV.out).mono ?_
              rintro e w6 ⟨rfl, rfl⟩
              go_wp2_with fail
              go_round
              case rel => exact ⟨k + 1, a, v, s + v, by go_num, rfl, rfl, rfl, by omega, by omega, by omega, by omega, by omega, by omega, by omega, hide HST.out.symm⟩
              case measure => simp [intOf]; omega
            · go_wp2_with fail
              refine (worn_ok B 0 0 g n k x1 _ wear _ hp hlt v HV.out).mono ?_
              rintro e w6 ⟨rfl, rfl⟩
              go_wp2_with fail
              go_round
              case rel => exact ⟨k + 1, a, c, s + v, by go_num, rfl, rfl, rfl, by omega, by omega, by omega, by omega, by omega, by omega, by omega, hide HST.out.symm⟩
              case measure => simp [intOf]; omega
        · obtain rfl : k = n := by omega
          have hfin : s = j := by
            have := HS.out
            rw [List.take_of_length_le (by rw [HLE.out.1]; exact Nat.le_refl _), HLE.out.2] at this
            exact this
          subst hfin
          have d1 : ((j : Int) == (j : Int)) = true := by simp
          have d2 : decide (c - a ≤ 1) = true := decide_eq_true (by omega)
          go_wp2_with fail
          go_ret
          exact ⟨rfl, hb⟩
end Go.Proofs.Ythaoiilghphbiaa.PoolW
