/- The walk of granarylaw1.FrameOpens: true, and nothing that was there is written. -/
import Derived.Test.YtmnhgpkbdiobkaaOpenOf
set_option linter.unusedVariables false
namespace Go.Proofs.Ytmnhgpkbdiobkaa.OpenW
open Go.RowKit PutW CrcW Fram Crc PackW FrameW GetW ApartW RefW

attribute [local irreducible] pack kindOf lbaOf seqOf seqI longOf dataOf

theorem data_good {l : List UInt8} {n : Nat} (h : Good l n) (hn : n = l.length) : longOf l = (dataOf l).length := data_length (by have := h.1; omega)

set_option maxRecDepth 100000 in
set_option maxHeartbeats 2000000 in
theorem opens_law (w : World) (A : Option Addr) (l : List UInt8) (n c : Nat) (hn : n = l.length) (hnc : n ≤ c) (hcm' : c ≤ 140737488351232) (hr : Rd w A (u8v l)) :
    Calls Try.prog 8 #[.slice A n c] w fun e w' => e = .returned (.bool true) ∧ Below w.heap.size w w' := by
  have hcm : c ≤ 9223372036854775807 := by omega
  have HN := hide hn
  clear hn hcm'
  go_enter Try.func8, Try.ntmps8
  go_wp2_with fail
  refine (open_any A l n c _ HN.out hnc hcm hr).mono ?_
  rintro e w1 ⟨hb1, h1⟩
  rcases h1 with ⟨hng, st, rfl, hst⟩ | ⟨hgd, B1, c1, rfl, hc1, hr1⟩
  · unfold noFrame frV
    go_wp2_with fail
    have hb2 := hb1.alloc hb1.size (.cells #[.int .i64 0, .int .i64 0, .int .i64 0, .slice none 0 0] 28)
    have hF2 := Bk.new w1 28 #[.int .i64 0, .int .i64 0, .int .i64 0, .slice none 0 0]
    generalize w1.alloc (.cells #[.int .i64 0, .int .i64 0, .int .i64 0, .slice none 0 0] 28) = w2 at hb2 hF2 ⊢
    obtain ⟨f, hf⟩ : ∃ f, f = w1.heap.size := ⟨_, rfl⟩
    rw [← hf] at hF2 ⊢
    clear hf
    have hl2 := hF2.lt
    refine (openOf_any A l n c _ HN.out hnc hcm (hr.below hb2)).mono ?_
    rintro e w3 ⟨hb3', h3⟩
    have hb3 := hb2.trans (hb3'.mono hb2.size)
    have hF3 := hF2.below hb3' hl2
    rcases h3 with ⟨-, st2, rfl, hst2⟩ | ⟨hgd, -⟩
    · obtain rfl : st = st2 := by
        rcases hst with ⟨a1, a2, rfl⟩ | ⟨a1, rfl⟩ <;> rcases hst2 with ⟨b1, b2, rfl⟩ | ⟨b1, rfl⟩
        · rfl
        · exact absurd ⟨a1, a2⟩ b1
        · exact absurd ⟨b1, b2⟩ a1
        · rfl
      unfold noFrame frV
      have hl3 := hF3.lt
      have hl4 : ¬ f = w3.heap.size := Nat.ne_of_lt hl3
      have hl5 : ¬ w3.heap.size = f := fun h => hl4 h.symm
      have d0 := hF3.at_ (i := 0) (u := .int .i64 0) rfl
      have d1 := hF3.at_ (i := 1) (u := .int .i64 0) rfl
      have d2 := hF3.at_ (i := 2) (u := .int .i64 0) rfl
      have d3 := hF3.at_ (i := 3) (u := .slice none 0 0) rfl
      have hb4 := hb3.alloc hb3.size (.cells #[.int .i64 0, .int .i64 0, .int .i64 0, .slice none 0 0] 28)
      clear hst hst2 hng
      go_wp2_with fail
      refine (frames_any 0 0 0 0 0 0 none none [] [] 0 0 0 0 _ rfl rfl (by omega) (Rd.nil _ _) (Rd.nil _ _) true (by simp)).mono ?_
      rintro e w5 ⟨rfl, hb5⟩
      have hst : (st == st) = true := by simp
      go_wp2_with fail
      go_ret
      exact ⟨by simp, hb4.trans (hb5.mono hb4.size)⟩
    · exact absurd hgd hng
  · unfold frV
    go_wp2_with fail
    have hb2 := hb1.alloc hb1.size (.cells #[.int .i64 (kindOf l), .int .i64 (lbaOf l), .int .i64 (seqI l), .slice B1 (longOf l) c1] 28)
    have hF2 := Bk.new w1 28 #[.int .i64 (kindOf l), .int .i64 (lbaOf l), .int .i64 (seqI l), .slice B1 (longOf l) c1]
    have hr2 := hr1.alloc (.cells #[.int .i64 (kindOf l), .int .i64 (lbaOf l), .int .i64 (seqI l), .slice B1 (longOf l) c1] 28)
    generalize w1.alloc (.cells #[.int .i64 (kindOf l), .int .i64 (lbaOf l), .int .i64 (seqI l), .slice B1 (longOf l) c1] 28) = w2 at hb2 hF2 hr2 ⊢
    obtain ⟨f, hf⟩ : ∃ f, f = w1.heap.size := ⟨_, rfl⟩
    rw [← hf] at hF2 ⊢
    clear hf
    have hl2 := hF2.lt
    refine (openOf_any A l n c _ HN.out hnc hcm (hr.below hb2)).mono ?_
    rintro e w3 ⟨hb3', h3⟩
    have hb3 := hb2.trans (hb3'.mono hb2.size)
    have hF3 := hF2.below hb3' hl2
    have hr13 := hr2.below hb3'
    rcases h3 with ⟨hng, -⟩ | ⟨-, B3, c3, rfl, hc3, hr3⟩
    · exact absurd hgd hng
    · have HDL := hide (data_good hgd HN.out)
      have hlm : longOf l ≤ 4096 := by have := hgd.1; have := (good_ends hgd).2.2.1; omega
      unfold frV
      have hl3 := hF3.lt
      have hl4 : ¬ f = w3.heap.size := Nat.ne_of_lt hl3
      have hl5 : ¬ w3.heap.size = f := fun h => hl4 h.symm
      have d0 := hF3.at_ (i := 0) (u := .int .i64 (kindOf l)) rfl
      have d1 := hF3.at_ (i := 1) (u := .int .i64 (lbaOf l)) rfl
      have d2 := hF3.at_ (i := 2) (u := .int .i64 (seqI l)) rfl
      have d3 := hF3.at_ (i := 3) (u := .slice B1 (longOf l) c1) rfl
      have hb4 := hb3.alloc hb3.size (.cells #[.int .i64 (kindOf l), .int .i64 (lbaOf l), .int .i64 (seqI l), .slice B3 (longOf l) c3] 28)
      have hr14 := hr13.alloc (.cells #[.int .i64 (kindOf l), .int .i64 (lbaOf l), .int .i64 (seqI l), .slice B3 (longOf l) c3] 28)
      have hr34 := hr3.alloc (.cells #[.int .i64 (kindOf l), .int .i64 (lbaOf l), .int .i64 (seqI l), .slice B3 (longOf l) c3] 28)
      clear hgd
      go_wp2_with fail
      refine (frames_any (kindOf l) (lbaOf l) (seqI l) (kindOf l) (lbaOf l) (seqI l) B1 B3 (dataOf l) (dataOf l) (longOf l) (longOf l) c1 c3 _ HDL.out HDL.out (by omega) hr14 hr34 true (by simp)).mono ?_
      rintro e w5 ⟨rfl, hb5⟩
      go_wp2_with fail
      go_ret
      exact ⟨by simp, hb4.trans (hb5.mono hb4.size)⟩
end Go.Proofs.Ytmnhgpkbdiobkaa.OpenW
