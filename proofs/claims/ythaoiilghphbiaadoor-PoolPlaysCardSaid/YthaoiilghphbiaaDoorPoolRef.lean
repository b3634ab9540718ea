/- The walks of granaryref1's pool: PoolFault, Many, Latched, Take, Put. -/
import Derived.Test.YthaoiilghphbiaaDoorPoolOps
set_option linter.unusedVariables false
namespace Go.Proofs.YthaoiilghphbiaaDoor.PoolW
open Go.RowKit HeapP HeapW I64

theorem rfault_ok (n : Nat) (sp : Int) (hn : 0 < n) (hn2 : n ≤ 64) (hs : 0 ≤ sp) (hs2 : sp ≤ n) (w : World) : Calls Tryd.prog 25 #[.int .i64 n, .int .i64 sp] w fun e w' => e = .returned (.int .i64 0) ∧ w = w' := by
  go_enter Tryd.func25, Tryd.ntmps25
  go_wp2
  go_ret
  exact ⟨rfl, rfl⟩
theorem rfault_range (x0 x1 : Int) (w : World) (h : x0 < 1 ∨ 64 < x0 ∨ x1 < 0 ∨ x0 < x1) : Calls Tryd.prog 25 #[.int .i64 x0, .int .i64 x1] w fun e w' => e = .returned (.int .i64 1) ∧ w = w' := by
  by_cases h1 : x0 < 1
  · go_enter Tryd.func25, Tryd.ntmps25
    go_wp2
    go_ret
    exact ⟨rfl, rfl⟩
  by_cases h2 : 64 < x0
  · go_enter Tryd.func25, Tryd.ntmps25
    go_wp2
    go_ret
    exact ⟨rfl, rfl⟩
  by_cases h3 : x1 < 0
  · go_enter Tryd.func25, Tryd.ntmps25
    go_wp2
    go_ret
    exact ⟨rfl, rfl⟩
  have h4 : x0 < x1 := by omega
  go_enter Tryd.func25, Tryd.ntmps25
  go_wp2
  go_ret
  exact ⟨rfl, rfl⟩

/-- Where the document's pool lies. -/
def RPoolAt (w : World) (B T r n : Nat) (sp : Int) (st wr : List Int) : Prop :=
  ∃ ra rb, Bk w r 57 #[.int .i64 sp, .slice (some ⟨ra, 0, none⟩) n n, .slice (some ⟨rb, 0, none⟩) n n] ∧ Bk w ra 3 (i64v st).toArray ∧ Bk w rb 3 (i64v wr).toArray ∧ st.length = n ∧ wr.length = n ∧ ra ≠ rb ∧ (B ≤ r ∧ r < T) ∧ (B ≤ ra ∧ ra < T) ∧ (B ≤ rb ∧ rb < T)
theorem RPoolAt.same {w w' : World} {B T r n : Nat} {sp : Int} {st wr : List Int} (h : RPoolAt w B T r n sp st wr) (hk : ∀ x, B ≤ x → x < T → x < w.heap.size → w'.heap[x]? = w.heap[x]?) : RPoolAt w' B T r n sp st wr := by
  obtain ⟨ra, rb, b1, b2, b3, h1, h2, h3, r1, r2, r3⟩ := h
  exact ⟨ra, rb, (hk r r1.1 r1.2 b1.lt).trans b1, (hk ra r2.1 r2.2 b2.lt).trans b2, (hk rb r3.1 r3.2 b3.lt).trans b3, h1, h2, h3, r1, r2, r3⟩
theorem RPoolAt.below {w w' : World} {B T r n : Nat} {sp : Int} {st wr : List Int} (h : RPoolAt w B T r n sp st wr) (hb : Below w.heap.size w w') : RPoolAt w' B T r n sp st wr := h.same fun x _ _ hx => hb.block x hx

theorem rcount_take (l : List Int) (k : Nat) (hk : k < l.length) (x : Int) : (l.take (k + 1)).count x = (l.take k).count x + (if l.getD k 0 = x then 1 else 0) := count_take l k hk x

theorem many_any (B T r n : Nat) (sp s : Int) (st wr : List Int) (w : World) (h : RPoolAt w B T r n sp st wr) (hn : n ≤ 64) :
    Calls Tryd.prog 29 #[.pointer (some ⟨r, 0, none⟩), .int .i64 s] w fun e w' => e = .returned (.int .i64 (st.count s : Nat)) ∧ w = w' := by
  obtain ⟨ra, rb, b1, b2, b3, hl, -⟩ := h
  have c1 := b1.at_ (i := 1) (u := .slice (some ⟨ra, 0, none⟩) n n) rfl
  have HC : Hid (∀ i, i < n → w.cell? ⟨ra, i, none⟩ = some (.int .i64 (st.getD i 0))) := hide fun i hi => b2.at_ (i64v_at st i (by omega))
  have HL := hide hl
  clear b1 b2 b3 hl
  go_enter Tryd.func29, Tryd.ntmps29
  go_wp2_with fail
  go_loop [5, 6] (fun c i => ∃ k q : Nat, i = .int .i64 k ∧ c = .int .i64 q ∧ k ≤ n ∧ q ≤ k ∧ Hid (q = (st.take k).count s)) (fun _ i => n - (intOf i).toNat)
  case atStart => exact ⟨0, 0, rfl, rfl, by omega, by omega, hide (by simp)⟩
  case round =>
    obtain ⟨k, q, rfl, rfl, hk, hq, HQ⟩ := hrel
    by_cases hlt : k < n
    · have hc := HC.out k hlt
      have ht := rcount_take st k (by rw [HL.out]; exact hlt) s
      rw [← HQ.out] at ht
      obtain ⟨v, hv⟩ : ∃ v, v = st.getD k 0 := ⟨_, rfl⟩
      rw [← hv] at hc ht
      clear hv
      by_cases he : v = s
      · have hd : (v == s) = true := by simpa using he
        rw [if_pos he] at ht
        have HT := hide ht
        clear he ht
        go_wp2_with fail
        go_round
        case rel => exact ⟨k + 1, q + 1, by go_num, by go_num, by omega, by omega, hide HT.out.symm⟩
        case measure => simp [intOf]; omega
      · have hd : (v == s) = false := by simpa using he
        rw [if_neg he] at ht
        have HT := hide ht
        clear he ht
        go_wp2_with fail
        go_round
        case rel => exact ⟨k + 1, q, by go_num, rfl, by omega, by omega, hide HT.out.symm⟩
        case measure => simp [intOf]; omega
    · obtain rfl : k = n := by omega
      have HQ2 : Hid (q = st.count s) := by
        have := HQ.out
        rw [List.take_of_length_le (Nat.le_of_eq HL.out)] at this
        exact hide this
      clear HQ
      go_wp2_with fail
      go_ret
      exact ⟨by rw [← HQ2.out]; rfl, rfl⟩

theorem refLatched_any (B T r n : Nat) (sp : Int) (st wr : List Int) (w : World) (h : RPoolAt w B T r n sp st wr) (hn : n ≤ 64) :
    Calls Tryd.prog 30 #[.pointer (some ⟨r, 0, none⟩)] w fun e w' => e = .returned (.bool (decide (sp < (st.count 2 : Nat)))) ∧ w = w' := by
  have H := hide h
  obtain ⟨ra, rb, b1, -⟩ := h
  have c0 := b1.at_ (i := 0) (u := .int .i64 sp) rfl
  clear b1
  go_enter Tryd.func30, Tryd.ntmps30
  go_wp2_with fail
  refine (many_any B T r n sp 2 st wr _ H.out hn).mono ?_
  rintro e w1 ⟨rfl, rfl⟩
  go_wp2_with fail
  go_ret
  exact ⟨rfl, rfl⟩


set_option maxHeartbeats 1000000 in
theorem refPut0_any (B T r n : Nat) (sp : Int) (st wr : List Int) (b : Int) (w : World) (h : RPoolAt w B T r n sp st wr) (hn : n ≤ 64) (hw0 : -4611686018427387904 ≤ wr.getD b.toNat 0) (hw1 : wr.getD b.toNat 0 ≤ 9223372036854775806) :
    Calls Tryd.prog 27 #[.pointer (some ⟨r, 0, none⟩), .int .i64 b, .int .i64 0] w fun e w' => Kept B T w w' ∧ ((fcode n sp st b = 0 ∧ e = .returned (.int .i64 0) ∧ RPoolAt w' B T r n sp (st.set b.toNat 0) (wr.set b.toNat (wr.getD b.toNat 0 + 1))) ∨ (∃ c : Int, fcode n sp st b = c ∧ c ≠ 0 ∧ e = .returned (.int .i64 c) ∧ RPoolAt w' B T r n sp st wr)) := by
  have H := hide h
  obtain ⟨ra, rb, b1, b2, b3, hl1, hl2, hne, r1, r2, r3⟩ := h
  by_cases h9 : sp < (st.count 2 : Nat)
  · have HC : Hid (fcode n sp st b = 9) := hide (by unfold fcode; rw [if_pos h9])
    have hd : decide (sp < (st.count 2 : Nat)) = true := decide_eq_true h9
    clear h9 b1 b2 b3
    go_enter Tryd.func27, Tryd.ntmps27
    go_wp2_with fail
    refine (refLatched_any B T r n sp st wr _ H.out hn).mono ?_
    rintro e w1 ⟨rfl, rfl⟩
    rw [hd]
    go_wp2_with fail
    go_ret
    exact ⟨Kept.refl _ _ _, .inr ⟨9, HC.out, by omega, rfl, H.out⟩⟩
  have hd : decide (sp < (st.count 2 : Nat)) = false := decide_eq_false h9
  have c1 := b1.at_ (i := 1) (u := .slice (some ⟨ra, 0, none⟩) n n) rfl
  by_cases hin : 0 ≤ b ∧ b < n
  rotate_left
  · have HC : Hid (fcode n sp st b = 1) := hide (by unfold fcode; rw [if_neg h9, if_pos hin])
    clear h9 b1 b2 b3
    by_cases g1 : b < 0
    · clear hin
      go_enter Tryd.func27, Tryd.ntmps27
      go_wp2_with fail
      refine (refLatched_any B T r n sp st wr _ H.out hn).mono ?_
      rintro e w1 ⟨rfl, rfl⟩
      rw [hd]
      go_wp2_with fail
      go_ret
      exact ⟨Kept.refl _ _ _, .inr ⟨1, HC.out, by omega, rfl, H.out⟩⟩
    · have g2 : (n : Int) ≤ b := by omega
      clear hin
      go_enter Tryd.func27, Tryd.ntmps27
      go_wp2_with fail
      refine (refLatched_any B T r n sp st wr _ H.out hn).mono ?_
      rintro e w1 ⟨rfl, rfl⟩
      rw [hd]
      go_wp2_with fail
      go_ret
      exact ⟨Kept.refl _ _ _, .inr ⟨1, HC.out, by omega, rfl, H.out⟩⟩
  obtain ⟨i1, i2⟩ := hin
  obtain ⟨k, rfl⟩ := Int.eq_ofNat_of_zero_le i1
  have hc := b2.at_ (i64v_at st k (by omega))
  have hf := b2.free k
  have HF : Hid (fcode n sp st (k : Int) = if st.getD k 0 = 1 then 0 else 10) := hide (by unfold fcode; rw [if_neg h9, if_neg (by omega), Int.toNat_natCast])
  obtain ⟨v, hv⟩ : ∃ v, v = st.getD k 0 := ⟨_, rfl⟩
  rw [← hv] at hc HF
  clear h9 hv
  by_cases hv1 : v = 1
  · subst hv1
    have nra := bk_ne b1 b2 (by decide)
    have nrb := bk_ne b1 b3 (by decide)
    have s1 := b1.far (p := ⟨ra, k, none⟩) nra (.int .i64 0)
    have s2 := b2.put k (.int .i64 0)
    rw [i64v_set] at s2
    have s3 := b3.far (p := ⟨ra, k, none⟩) (Ne.symm hne) (.int .i64 0)
    have q2 := s1.at_ (i := 2) (u := .slice (some ⟨rb, 0, none⟩) n n) rfl
    obtain ⟨x, hx⟩ : ∃ x, x = wr.getD k 0 := ⟨_, rfl⟩
    have qb := s3.at_ (i64v_at wr k (by omega))
    rw [Int.toNat_natCast, ← hx] at hw0 hw1
    rw [← hx] at qb
    have HX := hide hx
    have fb := s3.free k
    have t1 := s1.far (p := ⟨rb, k, none⟩) nrb (.int .i64 (x + 1))
    have t2 := s2.far (p := ⟨rb, k, none⟩) hne (.int .i64 (x + 1))
    have t3 := s3.put k (.int .i64 (x + 1))
    rw [i64v_set] at t3
    have S1 := hide t1
    have S2 := hide t2
    have S3 := hide t3
    clear s1 s2 s3 t1 t2 t3 hx
    have HL := hide (And.intro hl1 hl2)
    clear b1 b2 b3 hl1 hl2
    go_enter Tryd.func27, Tryd.ntmps27
    go_wp2_with fail
    refine (refLatched_any B T r n sp st wr _ H.out hn).mono ?_
    rintro e w1 ⟨rfl, rfl⟩
    rw [hd]
    go_wp2_with fail
    go_ret
    refine ⟨(Kept.setCell (p := ⟨ra, k, none⟩) r2.1 r2.2 _).trans (Kept.setCell (p := ⟨rb, k, none⟩) r3.1 r3.2 _), .inl ⟨HF.out, rfl, ?_⟩⟩
    simp only [Int.toNat_natCast]
    rw [← HX.out]
    exact ⟨ra, rb, S1.out, S2.out, S3.out, by { rw [List.length_set]; exact HL.out.1 }, by { rw [List.length_set]; exact HL.out.2 }, hne, r1, r2, r3⟩
  · have hd2 : (v != 1) = true := by simpa using hv1
    have HF2 : Hid (fcode n sp st (k : Int) = 10) := hide (by rw [HF.out, if_neg hv1])
    clear hv1 b1 b2 b3
    go_enter Tryd.func27, Tryd.ntmps27
    go_wp2_with fail
    refine (refLatched_any B T r n sp st wr _ H.out hn).mono ?_
    rintro e w1 ⟨rfl, rfl⟩
    rw [hd]
    go_wp2_with fail
    go_ret
    exact ⟨Kept.refl _ _ _, .inr ⟨10, HF2.out, by omega, rfl, H.out⟩⟩

set_option maxHeartbeats 1000000 in
theorem refPut2_any (B T r n : Nat) (sp : Int) (st wr : List Int) (b : Int) (w : World) (h : RPoolAt w B T r n sp st wr) (hn : n ≤ 64) :
    Calls Tryd.prog 27 #[.pointer (some ⟨r, 0, none⟩), .int .i64 b, .int .i64 2] w fun e w' => Kept B T w w' ∧ ((fcode n sp st b = 0 ∧ e = .returned (.int .i64 0) ∧ RPoolAt w' B T r n sp (st.set b.toNat 2) wr) ∨ (∃ c : Int, fcode n sp st b = c ∧ c ≠ 0 ∧ e = .returned (.int .i64 c) ∧ RPoolAt w' B T r n sp st wr)) := by
  have H := hide h
  obtain ⟨ra, rb, b1, b2, b3, hl1, hl2, hne, r1, r2, r3⟩ := h
  by_cases h9 : sp < (st.count 2 : Nat)
  · have HC : Hid (fcode n sp st b = 9) := hide (by unfold fcode; rw [if_pos h9])
    have hd : decide (sp < (st.count 2 : Nat)) = true := decide_eq_true h9
    clear h9 b1 b2 b3
    go_enter Tryd.func27, Tryd.ntmps27
    go_wp2_with fail
    refine (refLatched_any B T r n sp st wr _ H.out hn).mono ?_
    rintro e w1 ⟨rfl, rfl⟩
    rw [hd]
    go_wp2_with fail
    go_ret
    exact ⟨Kept.refl _ _ _, .inr ⟨9, HC.out, by omega, rfl, H.out⟩⟩
  have hd : decide (sp < (st.count 2 : Nat)) = false := decide_eq_false h9
  have c1 := b1.at_ (i := 1) (u := .slice (some ⟨ra, 0, none⟩) n n) rfl
  by_cases hin : 0 ≤ b ∧ b < n
  rotate_left
  · have HC : Hid (fcode n sp st b = 1) := hide (by unfold fcode; rw [if_neg h9, if_pos hin])
    clear h9 b1 b2 b3
    by_cases g1 : b < 0
    · clear hin
      go_enter Tryd.func27, Tryd.ntmps27
      go_wp2_with fail
      refine (refLatched_any B T r n sp st wr _ H.out hn).mono ?_
      rintro e w1 ⟨rfl, rfl⟩
      rw [hd]
      go_wp2_with fail
      go_ret
      exact ⟨Kept.refl _ _ _, .inr ⟨1, HC.out, by omega, rfl, H.out⟩⟩
    · have g2 : (n : Int) ≤ b := by omega
      clear hin
      go_enter Tryd.func27, Tryd.ntmps27
      go_wp2_with fail
      refine (refLatched_any B T r n sp st wr _ H.out hn).mono ?_
      rintro e w1 ⟨rfl, rfl⟩
      rw [hd]
      go_wp2_with fail
      go_ret
      exact ⟨Kept.refl _ _ _, .inr ⟨1, HC.out, by omega, rfl, H.out⟩⟩
  obtain ⟨i1, i2⟩ := hin
  obtain ⟨k, rfl⟩ := Int.eq_ofNat_of_zero_le i1
  have hc := b2.at_ (i64v_at st k (by omega))
  have hf := b2.free k
  have HF : Hid (fcode n sp st (k : Int) = if st.getD k 0 = 1 then 0 else 10) := hide (by unfold fcode; rw [if_neg h9, if_neg (by omega), Int.toNat_natCast])
  obtain ⟨v, hv⟩ : ∃ v, v = st.getD k 0 := ⟨_, rfl⟩
  rw [← hv] at hc HF
  clear h9 hv
  by_cases hv1 : v = 1
  · subst hv1
    have nra := bk_ne b1 b2 (by decide)
    have nrb := bk_ne b1 b3 (by decide)
    have s1 := b1.far (p := ⟨ra, k, none⟩) nra (.int .i64 2)
    have s2 := b2.put k (.int .i64 2)
    rw [i64v_set] at s2
    have s3 := b3.far (p := ⟨ra, k, none⟩) (Ne.symm hne) (.int .i64 2)
    have S1 := hide s1
    have S2 := hide s2
    have S3 := hide s3
    clear s1 s2 s3
    have HL := hide (And.intro hl1 hl2)
    clear b1 b2 b3 hl1 hl2
    go_enter Tryd.func27, Tryd.ntmps27
    go_wp2_with fail
    refine (refLatched_any B T r n sp st wr _ H.out hn).mono ?_
    rintro e w1 ⟨rfl, rfl⟩
    rw [hd]
    go_wp2_with fail
    go_ret
    refine ⟨Kept.setCell (p := ⟨ra, k, none⟩) r2.1 r2.2 _, .inl ⟨HF.out, rfl, ?_⟩⟩
    simp only [Int.toNat_natCast]
    exact ⟨ra, rb, S1.out, S2.out, S3.out, by { rw [List.length_set]; exact HL.out.1 }, HL.out.2, hne, r1, r2, r3⟩
  · have hd2 : (v != 1) = true := by simpa using hv1
    have HF2 : Hid (fcode n sp st (k : Int) = 10) := hide (by rw [HF.out, if_neg hv1])
    clear hv1 b1 b2 b3
    go_enter Tryd.func27, Tryd.ntmps27
    go_wp2_with fail
    refine (refLatched_any B T r n sp st wr _ H.out hn).mono ?_
    rintro e w1 ⟨rfl, rfl⟩
    rw [hd]
    go_wp2_with fail
    go_ret
    exact ⟨Kept.refl _ _ _, .inr ⟨10, HF2.out, by omega, rfl, H.out⟩⟩

/-- The least of the free ones. -/
def LeastFree (n : Nat) (st wr : List Int) (b : Nat) : Prop := b < n ∧ st.getD b 0 = 0 ∧ ∀ k : Nat, k < n → st.getD k 0 = 0 → ¬ lt (wr.getD k 0, (k : Int)) (wr.getD b 0, (b : Int))
theorem least_unique {n : Nat} {st wr : List Int} {b c : Nat} (h1 : LeastFree n st wr b) (h2 : LeastFree n st wr c) : b = c := by
  have e1 := h1.2.2 c h2.1 h2.2.1
  have e2 := h2.2.2 b h1.1 h1.2.1
  unfold lt at e1 e2
  simp only at e1 e2
  omega

set_option maxRecDepth 100000 in
set_option maxHeartbeats 4000000 in
theorem refTake_any (B T r n : Nat) (sp : Int) (st we : List Int) (w : World) (h : RPoolAt w B T r n sp st we) (hn : n ≤ 64) :
    Calls Tryd.prog 26 #[.pointer (some ⟨r, 0, none⟩)] w fun e w' => Kept B T w w' ∧ ((sp < (st.count 2 : Nat) ∧ e = .returned (.tuple #[.int .i64 0, .int .i64 9]) ∧ RPoolAt w' B T r n sp st we) ∨
      (((st.count 2 : Nat) : Int) ≤ sp ∧ (∀ k, k < n → st.getD k 0 ≠ 0) ∧ e = .returned (.tuple #[.int .i64 0, .int .i64 4]) ∧ RPoolAt w' B T r n sp st we) ∨
      (((st.count 2 : Nat) : Int) ≤ sp ∧ ∃ b : Nat, LeastFree n st we b ∧ e = .returned (.tuple #[.int .i64 (b : Int), .int .i64 0]) ∧ RPoolAt w' B T r n sp (st.set b 1) we)) := by
  have H := hide h
  obtain ⟨ra, rb, b1, b2, b3, hl1, hl2, hne, r1, r2, r3⟩ := h
  by_cases h9 : sp < (st.count 2 : Nat)
  · have HC := hide h9
    have hd : decide (sp < (st.count 2 : Nat)) = true := decide_eq_true h9
    clear h9 b1 b2 b3
    go_enter Tryd.func26, Tryd.ntmps26
    go_wp2_with fail
    refine (refLatched_any B T r n sp st we _ H.out hn).mono ?_
    rintro e w1 ⟨rfl, rfl⟩
    rw [hd]
    go_wp2_with fail
    go_ret2
    exact ⟨Kept.refl _ _ _, .inl ⟨HC.out, rfl, H.out⟩⟩
  have hd : decide (sp < (st.count 2 : Nat)) = false := decide_eq_false h9
  have HC := hide (Int.not_lt.1 h9)
  have c1 := b1.at_ (i := 1) (u := .slice (some ⟨ra, 0, none⟩) n n) rfl
  have c2 := b1.at_ (i := 2) (u := .slice (some ⟨rb, 0, none⟩) n n) rfl
  have HS : Hid (∀ i, i < n → w.cell? ⟨ra, i, none⟩ = some (.int .i64 (st.getD i 0))) := hide fun i hi => b2.at_ (i64v_at st i (by omega))
  have HW : Hid (∀ i, i < n → w.cell? ⟨rb, i, none⟩ = some (.int .i64 (we.getD i 0))) := hide fun i hi => b3.at_ (i64v_at we i (by omega))
  have HB1 := hide b1
  have HB2 := hide b2
  have HB3 := hide b3
  have HL := hide (And.intro hl1 hl2)
  clear h9 b1 b2 b3 hl1 hl2
  go_enter Tryd.func26, Tryd.ntmps26
  go_wp2_with fail
  refine (refLatched_any B T r n sp st we _ H.out hn).mono ?_
  rintro e w1 ⟨rfl, rfl⟩
  rw [hd]
  clear hd
  go_wp2_with fail
  go_loopw [5, 6] (fun c i wr' => ∃ k : Nat, i = .int .i64 k ∧ k ≤ n ∧ Hid (wr'.heap = w.heap ∧ Below w.heap.size w wr') ∧ ((c = .int .i64 (-1) ∧ Hid (∀ q, q < k → st.getD q 0 ≠ 0)) ∨ ∃ b : Nat, b < k ∧ c = .int .i64 b ∧ Hid (st.getD b 0 = 0 ∧ ∀ q : Nat, q < k → st.getD q 0 = 0 → ¬ lt (we.getD q 0, (q : Int)) (we.getD b 0, (b : Int))))) (fun _ i _ => n - (intOf i).toNat)
  case atStart => exact ⟨0, rfl, by omega, hide ⟨rfl, Below.refl _ _⟩, .inl ⟨rfl, hide fun q hq => by omega⟩⟩
  case round =>
    obtain ⟨k, rfl, hk, HD, hrel⟩ := hrel
    have HCL : Hid (∀ a : Addr, wr.cell? a = w.cell? a) := hide fun a => World.cell?_of_block (w := w) (by rw [HD.out.1])
    have d1 := (HCL.out ⟨r, 1, none⟩).trans c1
    have d2 := (HCL.out ⟨r, 2, none⟩).trans c2
    by_cases hlt : k < n
    · have hc := (HCL.out ⟨ra, k, none⟩).trans (HS.out k hlt)
      have hcw := (HCL.out ⟨rb, k, none⟩).trans (HW.out k hlt)
      obtain ⟨v, hv⟩ : ∃ v, st.getD k 0 = v := ⟨_, rfl⟩
      obtain ⟨x, hx⟩ : ∃ x, we.getD k 0 = x := ⟨_, rfl⟩
      rw [hv] at hc
      rw [hx] at hcw
      have HV := hide hv
      have HX := hide hx
      clear hv hx
      by_cases hv0 : v = 0
      · subst hv0
        have hd0 : ((0 : Int) == 0) = true := rfl
        rcases hrel with ⟨rfl, HNO⟩ | ⟨b, hbk, rfl, HB⟩
        · have HN : Hid (st.getD k 0 = 0 ∧ ∀ q : Nat, q < k + 1 → st.getD q 0 = 0 → ¬ lt (we.getD q 0, (q : Int)) (we.getD k 0, (k : Int))) := hide ⟨HV.out, fun q hq h0 => by
            by_cases e : q = k
            · subst e; exact lt_irrefl _
            · exact absurd h0 (HNO.out q (by omega))⟩
          go_wp2_with fail
          go_region
          go_wp2_with fail
          go_roundw
          case rel => exact ⟨k + 1, by go_num, by omega, hide ⟨HD.out.1, HD.out.2.drew⟩, .inr ⟨k, by omega, rfl, HN⟩⟩
          case measure => simp [intOf]; omega
        · have hcb := (HCL.out ⟨rb, b, none⟩).trans (HW.out b (by omega))
          obtain ⟨y, hy⟩ : ∃ y, we.getD b 0 = y := ⟨_, rfl⟩
          rw [hy] at hcb
          have HY := hide hy
          have e0 : decide ((b : Int) < 0) = false := decide_eq_false (by omega)
          clear hy
          by_cases hxy : x < y
          · have e1 : decide (x < y) = true := decide_eq_true hxy
            have HN : Hid (st.getD k 0 = 0 ∧ ∀ q : Nat, q < k + 1 → st.getD q 0 = 0 → ¬ lt (we.getD q 0, (q : Int)) (we.getD k 0, (k : Int))) := hide ⟨HV.out, fun q hq h0 => by
              by_cases e : q = k
              · subst e; exact lt_irrefl _
              · have h1 := HB.out.2 q (by omega) h0
                rw [HY.out] at h1
                rw [HX.out]
                unfold lt at h1 ⊢
                simp only at h1 ⊢
                omega⟩
            clear hxy
            go_wp2_with fail
            go_region
            go_wp2_with fail
            go_roundw
            case rel => exact ⟨k + 1, by go_num, by omega, hide ⟨HD.out.1, HD.out.2.drew⟩, .inr ⟨k, by omega, rfl, HN⟩⟩
            case measure => simp [intOf]; omega
          · have e1 : decide (x < y) = false := decide_eq_false hxy
            have HN : Hid (st.getD b 0 = 0 ∧ ∀ q : Nat, q < k + 1 → st.getD q 0 = 0 → ¬ lt (we.getD q 0, (q : Int)) (we.getD b 0, (b : Int))) := hide ⟨HB.out.1, fun q hq h0 => by
              by_cases e : q = k
              · subst e
                rw [HX.out, HY.out]
                unfold lt
                simp only
                omega
              · exact HB.out.2 q (by omega) h0⟩
            clear hxy
            go_wp2_with fail
            go_region
            go_wp2_with fail
            go_roundw
            case rel => exact ⟨k + 1, by go_num, by omega, hide ⟨HD.out.1, HD.out.2.drew⟩, .inr ⟨b, by omega, rfl, HN⟩⟩
            case measure => simp [intOf]; omega
      · have hd0 : (v == 0) = false := by simpa using hv0
        have HV0 := hide hv0
        clear hv0
        rcases hrel with ⟨rfl, HNO⟩ | ⟨b, hbk, rfl, HB⟩
        · have HN : Hid (∀ q, q < k + 1 → st.getD q 0 ≠ 0) := hide fun q hq => by
            by_cases e : q = k
            · subst e; rw [HV.out]; exact HV0.out
            · exact HNO.out q (by omega)
          go_wp2_with fail
          go_region
          go_wp2_with fail
          go_roundw
          case rel => exact ⟨k + 1, by go_num, by omega, hide ⟨HD.out.1, HD.out.2.drew⟩, .inl ⟨rfl, HN⟩⟩
          case measure => simp [intOf]; omega
        · have HN : Hid (st.getD b 0 = 0 ∧ ∀ q : Nat, q < k + 1 → st.getD q 0 = 0 → ¬ lt (we.getD q 0, (q : Int)) (we.getD b 0, (b : Int))) := hide ⟨HB.out.1, fun q hq h0 => by
            by_cases e : q = k
            · subst e; rw [HV.out] at h0; exact absurd h0 HV0.out
            · exact HB.out.2 q (by omega) h0⟩
          go_wp2_with fail
          go_region
          go_wp2_with fail
          go_roundw
          case rel => exact ⟨k + 1, by go_num, by omega, hide ⟨HD.out.1, HD.out.2.drew⟩, .inr ⟨b, by omega, rfl, HN⟩⟩
          case measure => simp [intOf]; omega
    · obtain rfl : k = n := by omega
      have HSM : Hid (RPoolAt wr B T r k sp st we) := hide (H.out.same fun x _ _ _ => by rw [HD.out.1])
      have HK : Hid (Kept B T w wr) := hide ⟨⟨HD.out.2.os, HD.out.2.tape, HD.out.2.output, HD.out.2.size, fun q _ => by rw [HD.out.1]⟩, fun q _ _ => by rw [HD.out.1]⟩
      rcases hrel with ⟨rfl, HNO⟩ | ⟨b, hbk, rfl, HB⟩
      · go_wp2_with fail
        go_ret2
        exact ⟨HK.out, .inr (.inl ⟨HC.out, HNO.out, rfl, HSM.out⟩)⟩
      · have hcb := (HCL.out ⟨ra, b, none⟩).trans (HS.out b hbk)
        have hb1 : Bk wr r 57 #[.int .i64 sp, .slice (some ⟨ra, 0, none⟩) k k, .slice (some ⟨rb, 0, none⟩) k k] := by unfold Bk; rw [HD.out.1]; exact HB1.out
        have hb2 : Bk wr ra 3 (i64v st).toArray := by unfold Bk; rw [HD.out.1]; exact HB2.out
        have hb3 : Bk wr rb 3 (i64v we).toArray := by unfold Bk; rw [HD.out.1]; exact HB3.out
        have hf := hb2.free b
        have nra := bk_ne hb1 hb2 (by decide)
        have hput := hb2.put b (.int .i64 1)
        rw [i64v_set] at hput
        have HFIN : Hid (RPoolAt (wr.setCell ⟨ra, b, none⟩ (.int .i64 1)) B T r k sp (st.set b 1) we) := hide ⟨ra, rb, hb1.far nra _, hput, hb3.far (Ne.symm hne) _, by { rw [List.length_set]; exact HL.out.1 }, HL.out.2, hne, r1, r2, r3⟩
        have e0 : decide ((b : Int) < 0) = false := decide_eq_false (by omega)
        have HLF : Hid (LeastFree k st we b) := hide ⟨hbk, HB.out.1, HB.out.2⟩
        clear hput hb1 hb2 hb3
        go_wp2_with fail
        go_ret2
        exact ⟨HK.out.trans (Kept.setCell (p := ⟨ra, b, none⟩) r2.1 r2.2 _), .inr (.inr ⟨HC.out, b, HLF.out, rfl, HFIN.out⟩)⟩
end Go.Proofs.YthaoiilghphbiaaDoor.PoolW
