/- The walks of granaryref1.Frames and granarylaw1.frameFact; what Pack refuses. -/
import Derived.Test.YtmnhgpkbdiobkaaPack
set_option linter.unusedVariables false
namespace Go.Proofs.Ytmnhgpkbdiobkaa.FrameW
open Go.RowKit PutW CrcW Fram Crc PackW

/-- What cannot be packed: an error, whichever. -/
theorem pack_bad (n k lba seq : Int) (A : Option Addr) (m c : Nat) (w : World) (h1 : -9223372036854775808 ≤ n) (h2 : n ≤ 9223372036854775807) (h : ¬ (Fits n m k lba seq ∧ (m : Int) ≤ n - 21)) :
    Calls Try.prog 14 #[.int .i64 n, frV k lba seq A m c] w fun e w' => ∃ q : Int, e = .returned (.tuple #[.slice none 0 0, .iface 23 (.int .i64 q)]) ∧ Below w.heap.size w w' := by
  by_cases hf : Fits n m k lba seq
  · exact (pack_full n k lba seq A m c w hf (Int.not_le.1 fun hle => h ⟨hf, hle⟩)).mono fun e w' ⟨a, b⟩ => ⟨3, a, b⟩
  · exact (pack_range n k lba seq A m c w h1 h2 hf).mono fun e w' ⟨a, b⟩ => ⟨1, a, b⟩

set_option maxRecDepth 100000 in
set_option maxHeartbeats 1000000 in
theorem frames_any (k1 l1 s1 k2 l2 s2 : Int) (A B : Option Addr) (a b : List UInt8) (n m ca cb : Nat) (w : World) (hn : n = a.length) (hm : m = b.length) (hmax : n ≤ 9223372036854775807) (ra : Rd w A (u8v a)) (rb : Rd w B (u8v b)) (r : Bool) (hr : r = decide (k1 = k2 ∧ l1 = l2 ∧ s1 = s2 ∧ a = b)) :
    Calls Try.prog 15 #[frV k1 l1 s1 A n ca, frV k2 l2 s2 B m cb] w fun e w' => e = .returned (.bool r) ∧ Below w.heap.size w w' := by
  have HN := hide hn
  have HM := hide hm
  have hw1 := (Rd.alloc ra (.cells #[.int .i64 k1, .int .i64 l1, .int .i64 s1, .slice A n ca] 28)).alloc (.cells #[.int .i64 k2, .int .i64 l2, .int .i64 s2, .slice B m cb] 28)
  have hw2 := (Rd.alloc rb (.cells #[.int .i64 k1, .int .i64 l1, .int .i64 s1, .slice A n ca] 28)).alloc (.cells #[.int .i64 k2, .int .i64 l2, .int .i64 s2, .slice B m cb] 28)
  have hb0 : Below w.heap.size w ((w.alloc (.cells #[.int .i64 k1, .int .i64 l1, .int .i64 s1, .slice A n ca] 28)).alloc (.cells #[.int .i64 k2, .int .i64 l2, .int .i64 s2, .slice B m cb] 28)) := ((Below.refl _ _).alloc (Nat.le_refl _) _).alloc (by simp) _
  clear hn hm
  unfold frV
  by_cases hk : k1 = k2
  · by_cases hl : l1 = l2
    · by_cases hs : s1 = s2
      · have HR := hide (show decide (a = b) = r by rw [hr]; simp [hk, hl, hs])
        clear hr
        subst hk hl hs
        have tk : (k1 == k1) = true := by simp
        have tl : (l1 == l1) = true := by simp
        have ts : (s1 == s1) = true := by simp
        go_enter Try.func15, Try.ntmps15
        go_wp2_with fail
        refine (same_any A B a b n m ca cb _ HN.out HM.out hmax hw1 hw2 r HR.out.symm).mono ?_
        rintro e w' ⟨rfl, d, rfl⟩
        go_wp2_with fail
        go_ret
        exact ⟨rfl, below_drewN hb0 d⟩
      · have HR := hide (show false = r by rw [hr]; simp [hs])
        have tk : (k1 == k2) = true := by simp [hk]
        have tl : (l1 == l2) = true := by simp [hl]
        have ts : (s1 == s2) = false := by simp [hs]
        clear hr hk hl hs
        go_enter Try.func15, Try.ntmps15
        go_wp2_with fail
        refine (same_any A B a b n m ca cb _ HN.out HM.out hmax hw1 hw2 _ rfl).mono ?_
        rintro e w' ⟨rfl, d, rfl⟩
        generalize decide (a = b) = q
        go_wp2_with fail
        go_ret
        exact ⟨by rw [← HR.out]; rfl, below_drewN hb0 d⟩
    · have HR := hide (show false = r by rw [hr]; simp [hl])
      have tk : (k1 == k2) = true := by simp [hk]
      have tl : (l1 == l2) = false := by simp [hl]
      clear hr hk hl
      go_enter Try.func15, Try.ntmps15
      go_wp2_with fail
      refine (same_any A B a b n m ca cb _ HN.out HM.out hmax hw1 hw2 _ rfl).mono ?_
      rintro e w' ⟨rfl, d, rfl⟩
      generalize decide (a = b) = q
      go_wp2_with fail
      go_ret
      exact ⟨by rw [← HR.out]; rfl, below_drewN hb0 d⟩
  · have HR := hide (show false = r by rw [hr]; simp [hk])
    have tk : (k1 == k2) = false := by simp [hk]
    clear hr hk
    go_enter Try.func15, Try.ntmps15
    go_wp2_with fail
    refine (same_any A B a b n m ca cb _ HN.out HM.out hmax hw1 hw2 _ rfl).mono ?_
    rintro e w' ⟨rfl, d, rfl⟩
    generalize decide (a = b) = q
    go_wp2_with fail
    go_ret
    exact ⟨by rw [← HR.out]; rfl, below_drewN hb0 d⟩

theorem fact_bytes : (pack 24 1 7 9 [5]).getD 0 0 = 165 ∧ (pack 24 1 7 9 [5]).getD 20 0 = 5 ∧ (pack 24 1 7 9 [5]).getD 23 0 = 90 ∧ (pack 24 1 7 9 [5]).length = 24 := by decide +kernel

attribute [local irreducible] pack

set_option maxRecDepth 100000 in
set_option maxHeartbeats 1000000 in
theorem frameFact_any (w : World) : Calls Try.prog 13 #[] w fun e w' => e = .returned (.bool true) ∧ Below w.heap.size w w' := by
  obtain ⟨b0, b20, b23, bl⟩ := fact_bytes
  have B0 := hide b0
  have B20 := hide b20
  have B23 := hide b23
  have BL := hide bl.symm
  clear b0 b20 b23 bl
  have hb0 : Below w.heap.size w (w.alloc (.cells #[.int .u8 5] 5)) := (Below.refl _ _).alloc (Nat.le_refl _) _
  have hr := Rd.one w 5 (.int .u8 5)
  go_enter Try.func13, Try.ntmps13
  go_wp2_with fail
  refine (pack_ok 24 1 7 9 (some ⟨w.heap.size, 0, none⟩) [5] 1 1 _ (by omega) (by omega) (by omega) (by omega) (by omega) (by omega) (by omega) (by omega) rfl (by omega) (by exact hr)).mono ?_
  rintro e w2 ⟨v, rfl, ho, hb⟩
  have ho' : w2.ownsRow (w.alloc (.cells #[.int .u8 5] 5)).heap.size 5 1 v 24 (u8v (pack 24 1 7 9 [5])) := ho
  clear ho
  obtain ⟨A1, c1, rfl, -, -, -, -, -⟩ := own_form ho'
  obtain ⟨g1, rfl, -, -⟩ := own_at ho' (by omega)
  have h0 := get_cell ho' 0 (by omega) BL.out
  have h20 := get_cell ho' 20 (by omega) BL.out
  have h23 := get_cell ho' 23 (by omega) BL.out
  rw [B0.out] at h0
  rw [B20.out] at h20
  rw [B23.out] at h23
  have h0' : w2.cell? ⟨g1, 0, none⟩ = some (.int .u8 165) := h0
  have h20' : w2.cell? ⟨g1, 20, none⟩ = some (.int .u8 5) := h20
  have h23' : w2.cell? ⟨g1, 23, none⟩ = some (.int .u8 90) := h23
  clear h0 h20 h23 ho'
  go_wp2_with fail
  go_ret
  exact ⟨rfl, hb0.trans (hb.mono (by simp))⟩
end Go.Proofs.Ytmnhgpkbdiobkaa.FrameW
