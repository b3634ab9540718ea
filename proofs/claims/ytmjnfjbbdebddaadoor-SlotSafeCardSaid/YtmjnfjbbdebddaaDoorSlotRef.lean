/- The walks of granaryref1.SlotFault, SlotOf, SlotSeq and of slot.Next. -/
import Derived.Test.YtmjnfjbbdebddaaDoorSlotPut
import Derived.Test.YtmjnfjbbdebddaaDoorSlotChoose
import Derived.Test.YtmjnfjbbdebddaaDoorRefW
set_option linter.unusedVariables false
namespace Go.Proofs.YtmjnfjbbdebddaaDoor.SlotW
open Go.RowKit Fram SlotP CrcW Crc RefW

theorem fault_ok (seq : Int) (A : Option Addr) (n c : Nat) (w : World) (h0 : 0 ≤ seq) (h1 : seq ≤ 4611686018427387904) (hm : n ≤ 4096) :
    Calls Tryd.prog 10 #[.int .i64 seq, .slice A n c] w fun e w' => e = .returned (.int .i64 0) ∧ w = w' := by
  go_enter Tryd.func10, Tryd.ntmps10
  go_wp2
  go_ret
  exact ⟨rfl, rfl⟩
theorem fault_full (seq : Int) (A : Option Addr) (n c : Nat) (w : World) (h0 : 0 ≤ seq) (h1 : seq ≤ 4611686018427387904) (hm : 4096 < n) :
    Calls Tryd.prog 10 #[.int .i64 seq, .slice A n c] w fun e w' => e = .returned (.int .i64 3) ∧ w = w' := by
  have hm' : (4096 : Int) < (n : Int) := by omega
  go_enter Tryd.func10, Tryd.ntmps10
  go_wp2
  go_ret
  exact ⟨rfl, rfl⟩
theorem fault_range (seq : Int) (v : Value) (w : World) (h : seq < 0 ∨ 4611686018427387904 < seq) :
    Calls Tryd.prog 10 #[.int .i64 seq, v] w fun e w' => e = .returned (.int .i64 1) ∧ w = w' := by
  rcases h with h | h
  · go_enter Tryd.func10, Tryd.ntmps10
    go_wp2
    go_ret
    exact ⟨rfl, rfl⟩
  · have h' : ¬ seq < 0 := by omega
    go_enter Tryd.func10, Tryd.ntmps10
    go_wp2
    go_ret
    exact ⟨rfl, rfl⟩

attribute [local irreducible] slotB headB lowB seqS longS bodyS sumS

theorem head_step2 (seq : Nat) (l : List UInt8) : lowB seq 8 ++ lowB l.length 4 ++ l = headB seq l := by
  unfold headB; simp

set_option maxRecDepth 100000 in
set_option maxHeartbeats 2000000 in
theorem slotOf_any (seq : Int) (A : Option Addr) (l : List UInt8) (n c : Nat) (w : World) (hn : n = l.length) (h0 : 0 ≤ seq) (h1 : seq ≤ 4611686018427387904) (hm : n ≤ 4096) (hr : Rd w A (u8v l)) :
    Calls Tryd.prog 12 #[.int .i64 seq, .slice A n c] w fun e w' => ∃ B c', e = .returned (.slice B (16 + n) c') ∧ 16 + n ≤ c' ∧ w'.ownsRow w.heap.size 5 1 (.slice B (16 + n) c') (16 + n) (u8v (slotB seq.toNat l)) ∧ Below w.heap.size w w' := by
  have HN := hide hn
  clear hn
  go_enter Tryd.func12, Tryd.ntmps12
  go_wp2_with fail
  refine (lowFirst_int seq 8 _ _ rfl (by omega) h0 (by omega)).mono ?_
  rintro e w1 ⟨B1, c1, rfl, hc1, ho1, hb1⟩
  go_wp2_with fail
  refine (lowFirst_int (n : Int) 4 _ _ rfl (by omega) (by omega) (by omega)).mono ?_
  rintro e w2 ⟨B2, c2, rfl, hc2, ho2, hb2⟩
  have ho1' := own_below ho1 hb2 (Nat.le_refl _)
  have hr2 := own_rd ho2
  have hb02 := hb1.trans (hb2.mono hb1.size)
  have hs2 := hb02.size
  have hra2 := hr.below hb02
  have HL4 := hide (show 4 = (lowB (n : Int).toNat 4).length by rw [lowB_length])
  go_wp2_with (first
    | (at_builtin
       refine wpList_app _ rfl (.tmp 13) (.tmp 14) rfl w.heap.size _ 8 _ rfl (by exact ho1') B2 4 c2 _ rfl HL4.out (by exact hr2) (by omega) hs2 ?_
       intro B3 c3 w3 hc3 ho3 hb3
       have hb03 := hb02.trans hb3
       have hs3 := hb03.size)
    | (at_builtin
       refine wpList_app _ rfl (.tmp 16) (.tmp 17) rfl w.heap.size _ (8 + 4) _ rfl (by exact ho3) A n c l rfl HN.out (by exact hr.below hb03) (by omega) hs3 ?_
       intro B4 c4 w4 hc4 ho4 hb4
       have hb04 := hb03.trans hb4
       have hs4 := hb04.size))
  have HH : Hid (lowB seq.toNat 8 ++ lowB (n : Int).toNat 4 ++ l = headB seq.toNat l) := hide (by rw [Int.toNat_natCast, HN.out]; exact head_step2 _ _)
  rw [HH.out] at ho4
  obtain ⟨C, hC⟩ : ∃ C, C = crc (headB seq.toNat l) := ⟨_, rfl⟩
  have hCl := C.isLt
  have x4 : IntKind.i64.wrap (C.toNat : Int) = (C.toNat : Int) := by rw [IntKind.wrap_i64]; omega
  have HC := hide hC
  have HHL := hide (show 8 + 4 + n = (headB seq.toNat l).length by rw [headB_length, ← HN.out])
  clear hC
  refine (refCrc_any B4 (headB seq.toNat l) _ c4 _ HHL.out (by omega) (own_rd ho4)).mono ?_
  rintro e w5 ⟨rfl, rfl⟩
  rw [← HC.out]
  go_wp2_with fail
  refine (lowFirst_int (C.toNat : Int) 4 _ _ rfl (by omega) (by omega) (by omega)).mono ?_
  rintro e w6 ⟨B6, c6, rfl, hc6, ho6, hb6⟩
  have ho5 := own_below ho4 hb6 (Nat.le_refl _)
  have hr6 := own_rd ho6
  have hb06 := hb04.trans (hb6.mono hs4)
  have hs6 := hb06.size
  have HL6 := hide (show 4 = (lowB (C.toNat : Int).toNat 4).length by rw [lowB_length])
  go_wp2_with (first
    | (at_builtin
       refine wpList_app _ rfl (.tmp 24) (.tmp 25) rfl w.heap.size _ (8 + 4 + n) _ rfl (by exact ho5) B6 4 c6 _ rfl HL6.out (by exact hr6) (by omega) hs6 ?_
       intro B7 c7 w7 hc7 ho7 hb7
       have hb07 := hb06.trans hb7))
  go_ret
  have e16 : 8 + 4 + n + 4 = 16 + n := by omega
  have hS : headB seq.toNat l ++ lowB ((C.toNat : Int)).toNat 4 = slotB seq.toNat l := by unfold slotB; rw [Int.toNat_natCast, HC.out]
  rw [hS, e16] at ho7
  rw [e16] at hc7
  refine ⟨B7, c7, ?_, hc7, ho7, hb07⟩
  rw [show 12 + n + 4 = 16 + n by omega]
  rfl
end Go.Proofs.YtmjnfjbbdebddaaDoor.SlotW
