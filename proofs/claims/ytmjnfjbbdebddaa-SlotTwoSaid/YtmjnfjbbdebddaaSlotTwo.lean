/- The walk of granarylaw1.SlotTwo: true, and nothing that was there is written. -/
import Derived.Test.YtmjnfjbbdebddaaSlotPut
import Derived.Test.YtmjnfjbbdebddaaSlotChoose
set_option linter.unusedVariables false
namespace Go.Proofs.Ytmjnfjbbdebddaa.SlotW
open Go.RowKit Fram SlotP CrcW Crc

/-- slot.Put(3, []byte{1}). -/
theorem fact_put (w : World) : Calls Try.prog 8 #[.int .i64 3, .slice (some ⟨w.heap.size, 0, none⟩) 1 1] (w.alloc (.cells #[.int .u8 1] 5)) fun e w' => ∃ B c', e = .returned (.tuple #[.slice B 17 c', .nilIface]) ∧ Below w.heap.size w w' := by
  have hb : Below w.heap.size w (w.alloc (.cells #[.int .u8 1] 5)) := (Below.refl _ _).alloc (Nat.le_refl _) _
  refine (put_ok 3 _ [1] 1 1 _ rfl (by omega) (by omega) (by omega) (Rd.one w 5 (.int .u8 1))).mono ?_
  rintro e w' ⟨B, c', rfl, -, -, hb2⟩
  exact ⟨B, c', rfl, hb.trans (hb2.mono (by simp))⟩

theorem sel_swap {a b : List UInt8} {k j : Int} {l m : List UInt8} (h : Sel a b k l) (h2 : Sel b a j m) : (seqS l = seqS m) ∧ ((k = 0 ∧ j = 0) ∨ (k ≠ j ∧ l = m)) := by
  rcases h with ⟨rfl, rfl, h1, h3⟩ | ⟨rfl, rfl, h1, h3⟩ <;> rcases h2 with ⟨rfl, rfl, g1, g3⟩ | ⟨rfl, rfl, g1, g3⟩
  · have := h3 g1; have := g3 h1; exact ⟨by omega, .inl ⟨rfl, rfl⟩⟩
  · exact ⟨rfl, .inr ⟨by omega, rfl⟩⟩
  · exact ⟨rfl, .inr ⟨by omega, rfl⟩⟩
  · have := h3 g1; have := g3 h1; omega

theorem sel_whole {a b : List UInt8} {k : Int} {l : List UInt8} (h : Sel a b k l) : Whole a ∨ Whole b := by
  rcases h with ⟨_, _, h, _⟩ | ⟨_, _, h, _⟩
  · exact .inl h
  · exact .inr h
theorem sel_isWhole {a b : List UInt8} {k : Int} {l : List UInt8} (h : Sel a b k l) : Whole l := by
  rcases h with ⟨_, rfl, h, _⟩ | ⟨_, rfl, h, _⟩ <;> exact h

attribute [local irreducible] seqS longS bodyS sumS

theorem body_long {l : List UInt8} (h : Whole l) : longS l = (bodyS l).length := (bodyS_length h.2.2.2.1).symm

set_option maxRecDepth 100000 in
set_option maxHeartbeats 2000000 in
theorem law (w : World) (A : Option Addr) (a : List UInt8) (n c : Nat) (hn : n = a.length) (hnc : n ≤ c) (hcm' : c ≤ 140737488351232) (ra : Rd w A (u8v a)) (C : Option Addr) (b : List UInt8) (m d : Nat) (hm : m = b.length) (hmd : m ≤ d) (hdm' : d ≤ 140737488351232) (rb : Rd w C (u8v b)) :
    Calls Try.prog 3 #[.slice A n c, .slice C m d] w fun e w' => e = .returned (.bool true) ∧ Below w.heap.size w w' := by
  have hcm : c ≤ 9223372036854775807 := by omega
  have hdm : d ≤ 9223372036854775807 := by omega
  clear hcm' hdm'
  have HN := hide hn
  have HM := hide hm
  clear hn hm
  go_enter Try.func3, Try.ntmps3
  go_wp2_with fail
  refine (fact_put w).mono ?_
  rintro e w1 ⟨B1, c1, rfl, hb1⟩
  go_wp2_with fail
  refine (choose_any A C a b n m c d _ HN.out HM.out hnc hmd hcm hdm (ra.below hb1) (rb.below hb1)).mono ?_
  rintro e w2 ⟨hb2', h2⟩
  have hb2 := hb1.trans (hb2'.mono hb1.size)
  clear hb2'
  rcases h2 with ⟨hWa, hWb, rfl⟩ | ⟨k, l, B2, c2, hS2, rfl, hr2, hc2⟩
  · go_wp2_with fail
    refine (choose_any C A b a m n d c _ HM.out HN.out hmd hnc hdm hcm (rb.below hb2) (ra.below hb2)).mono ?_
    rintro e w3 ⟨hb3', h3⟩
    have hb3 := hb2.trans (hb3'.mono hb2.size)
    clear hb3'
    rcases h3 with ⟨-, -, rfl⟩ | ⟨k3, l3, B3, c3, hS3, rfl, hr3, hc3⟩
    · go_wp2_with fail
      go_ret
      exact ⟨rfl, hb3⟩
    · exact absurd (sel_whole hS3) (fun h => h.elim hWb hWa)
  · go_wp2_with fail
    refine (choose_any C A b a m n d c _ HM.out HN.out hmd hnc hdm hcm (rb.below hb2) (ra.below hb2)).mono ?_
    rintro e w3 ⟨hb3', h3⟩
    have hb3 := hb2.trans (hb3'.mono hb2.size)
    have hr2' := hr2.below hb3'
    clear hb3'
    rcases h3 with ⟨hWb, hWa, rfl⟩ | ⟨k3, l3, B3, c3, hS3, rfl, hr3, hc3⟩
    · exact absurd (sel_whole hS2) (fun h => h.elim hWa hWb)
    · obtain ⟨hse, hk⟩ := sel_swap hS2 hS3
      have HL2 := hide (body_long (sel_isWhole hS2))
      have HL3 := hide (body_long (sel_isWhole hS3))
      have hlb := (sel_isWhole hS2).2.2.1
      clear hS2 hS3
      have hne : ((seqS l : Int) != (seqS l3 : Int)) = false := by simp; omega
      rcases hk with ⟨rfl, rfl⟩ | ⟨hk, rfl⟩
      · clear hse
        go_wp2_with fail
        go_ret
        exact ⟨rfl, hb3⟩
      · have hkk : (k == k3) = false := by simpa using hk
        clear hk hse
        go_wp2_with fail
        refine (same_any B2 B3 (bodyS l) (bodyS l) (longS l) (longS l) c2 c3 _ HL2.out HL2.out (by omega) hr2' hr3 true (by simp)).mono ?_
        rintro e w4 ⟨rfl, dd, rfl⟩
        go_wp2_with fail
        go_ret
        exact ⟨rfl, below_drewN hb3 dd⟩
end Go.Proofs.Ytmjnfjbbdebddaa.SlotW
