/- The walk of slot.Put. -/
import Derived.Test.YtmjnfjbbdebddaaDoorSlotW
import Derived.Test.YtmjnfjbbdebddaaDoorCrc
set_option linter.unusedVariables false
namespace Go.Proofs.YtmjnfjbbdebddaaDoor.SlotW
open Go.RowKit Fram SlotP CrcW Crc

theorem low_int (base : Nat) (v : Value) (k m : Nat) (q : Int) (xs : List UInt8) (x : Int) (w : World) (hown : w.ownsRow base 5 1 v k (u8v xs)) (hbase : base ≤ w.heap.size) (hk : k ≤ 1000000) (hm : m ≤ 8) (hq : q = (m : Int)) (hx : 0 ≤ x) :
    Calls Tryd.prog 28 #[v, .int .u64 x, .int .i64 q] w fun e w' => ∃ A c, e = .returned (.slice A (k + m) c) ∧ k + m ≤ c ∧ w'.ownsRow base 5 1 (.slice A (k + m) c) (k + m) (u8v (xs ++ lowB x.toNat m)) ∧ Below base w w' := by
  subst hq
  obtain ⟨x, rfl⟩ := Int.eq_ofNat_of_zero_le hx
  refine (low_any base v k m xs x w hown hbase hk hm).mono ?_
  rintro e w' ⟨v', rfl, ho, hb⟩
  obtain ⟨A, c, rfl, hc, -, -, -, -⟩ := own_form ho
  exact ⟨A, c, rfl, hc, ho, hb⟩

attribute [local irreducible] slotB headB lowB

theorem head_step (seq : Nat) (l : List UInt8) : ([] ++ lowB seq 8) ++ lowB l.length 4 ++ l = headB seq l := by
  unfold headB; simp

set_option maxRecDepth 100000 in
set_option maxHeartbeats 2000000 in
theorem put_ok (seq : Int) (A : Option Addr) (l : List UInt8) (n c : Nat) (w : World) (hn : n = l.length) (h0 : 0 ≤ seq) (h1 : seq ≤ 4611686018427387904) (hm : n ≤ 4096) (hr : Rd w A (u8v l)) :
    Calls Tryd.prog 9 #[.int .i64 seq, .slice A n c] w fun e w' => ∃ B c', e = .returned (.tuple #[.slice B (16 + n) c', .nilIface]) ∧ 16 + n ≤ c' ∧ w'.ownsRow w.heap.size 5 1 (.slice B (16 + n) c') (16 + n) (u8v (slotB seq.toNat l)) ∧ Below w.heap.size w w' := by
  have x1 : IntKind.u64.wrap seq = seq := by rw [IntKind.wrap_u64]; omega
  have x2 : IntKind.u64.wrap (n : Int) = (n : Int) := by rw [IntKind.wrap_u64]; omega
  have HN := hide hn
  clear hn
  go_enter Tryd.func9, Tryd.ntmps9
  go_wp2_with fail
  refine (low_int w.heap.size (.slice none 0 0) 0 8 _ [] seq _ (World.ownsRow_nil _ _ _ _) (Nat.le_refl _) (by omega) (by omega) rfl h0).mono ?_
  rintro e w1 ⟨B1, c1, rfl, hc1, ho1, hb1⟩
  go_wp2_with fail
  refine (low_int w.heap.size _ (0 + 8) 4 _ _ (n : Int) _ ho1 hb1.size (by omega) (by omega) rfl (by omega)).mono ?_
  rintro e w2 ⟨B2, c2, rfl, hc2, ho2, hb2⟩
  have hb02 := hb1.trans hb2
  have hr2 := hr.below hb02
  have hs2 := hb02.size
  go_wp2_with (first
    | (at_builtin
       refine wpList_app _ rfl _ _ rfl w.heap.size _ (0 + 8 + 4) _ rfl (by exact ho2) A n c l rfl HN.out (by exact hr2) (by omega) hs2 ?_
       intro B3 c3 w3 hc3 ho3 hb3
       have hb03 := hb02.trans hb3))
  have hs3 := hb03.size
  have HH : Hid (([] ++ lowB seq.toNat 8) ++ lowB (n : Int).toNat 4 ++ l = headB seq.toNat l) := hide (by rw [Int.toNat_natCast, HN.out]; exact head_step _ _)
  rw [HH.out] at ho3
  obtain ⟨C, hC⟩ : ∃ C, C = crc (headB seq.toNat l) := ⟨_, rfl⟩
  have hCl := C.isLt
  have x4 : IntKind.u64.wrap (C.toNat : Int) = (C.toNat : Int) := by rw [IntKind.wrap_u64]; omega
  have HC := hide hC
  have HHL := hide (show 0 + 8 + 4 + n = (headB seq.toNat l).length by rw [headB_length, ← HN.out])
  clear hC
  go_wp2_with fail
  refine (crc_any B3 (headB seq.toNat l) _ c3 _ HHL.out (by omega) (own_rd ho3)).mono ?_
  rintro e w4 ⟨rfl, rfl⟩
  rw [← HC.out]
  go_wp2_with fail
  refine (low_int w.heap.size _ (0 + 8 + 4 + n) 4 _ _ (C.toNat : Int) _ ho3 hs3 (by omega) (by omega) rfl (by omega)).mono ?_
  rintro e w5 ⟨B5, c5, rfl, hc5, ho5, hb5⟩
  go_wp2_with fail
  go_ret2
  have e16 : 0 + 8 + 4 + n + 4 = 16 + n := by omega
  have hS : headB seq.toNat l ++ lowB ((C.toNat : Int)).toNat 4 = slotB seq.toNat l := by unfold slotB; rw [Int.toNat_natCast, HC.out]
  rw [hS, e16] at ho5
  rw [e16] at hc5
  refine ⟨B5, c5, ?_, hc5, ho5, hb03.trans hb5⟩
  rw [show 12 + n + 4 = 16 + n by omega]
  rfl

def PutOk (seq : Int) (n : Nat) : Prop := 0 ≤ seq ∧ seq ≤ 4611686018427387904 ∧ n ≤ 4096

/-- What is refused, and why. -/
theorem put_range (seq : Int) (v : Value) (w : World) (h : seq < 0 ∨ 4611686018427387904 < seq) :
    Calls Tryd.prog 9 #[.int .i64 seq, v] w fun e w' => e = .returned (.tuple #[.slice none 0 0, .iface 27 (.int .i64 1)]) ∧ w = w' := by
  rcases h with h | h
  · go_enter Tryd.func9, Tryd.ntmps9
    go_wp2_with fail
    go_ret2
    exact ⟨rfl, rfl⟩
  · have h' : ¬ seq < 0 := by omega
    go_enter Tryd.func9, Tryd.ntmps9
    go_wp2_with fail
    go_ret2
    exact ⟨rfl, rfl⟩
theorem put_full (seq : Int) (A : Option Addr) (n c : Nat) (w : World) (h0 : 0 ≤ seq) (h1 : seq ≤ 4611686018427387904) (hm : 4096 < n) :
    Calls Tryd.prog 9 #[.int .i64 seq, .slice A n c] w fun e w' => e = .returned (.tuple #[.slice none 0 0, .iface 27 (.int .i64 3)]) ∧ w = w' := by
  have hm' : (4096 : Int) < (n : Int) := by omega
  go_enter Tryd.func9, Tryd.ntmps9
  go_wp2_with fail
  go_ret2
  exact ⟨rfl, rfl⟩
end Go.Proofs.YtmjnfjbbdebddaaDoor.SlotW
