/- The walks of granarylaw1.SlotPuts and SlotChooses: true, and nothing that was there is written. -/
import Derived.Test.YtmjnfjbbdebddaaDoorSlotSeq
import Derived.Test.YtmjnfjbbdebddaaDoorTold
set_option linter.unusedVariables false
namespace Go.Proofs.YtmjnfjbbdebddaaDoor.SlotW
open Go.RowKit Fram SlotP CrcW Crc RefW ToldW

attribute [local irreducible] slotB headB lowB seqS longS bodyS sumS

set_option maxRecDepth 100000 in
set_option maxHeartbeats 2000000 in
theorem puts_law (w : World) (hE : ErrT w) (seq : Int) (t1 : -9223372036854775808 ≤ seq) (t2 : seq ≤ 9223372036854775807) (A : Option Addr) (a : List UInt8) (n c : Nat) (hn : n = a.length) (hnc : n ≤ c) (hcm : c ≤ 140737488351232) (ra : Rd w A (u8v a)) :
    Calls Tryd.prog 3 #[.int .i64 seq, .slice A n c] w fun e w' => e = .returned (.bool true) ∧ Below w.heap.size w w' := by
  have HN := hide hn
  have HE := hide hE
  clear hn hE
  by_cases hs : seq < 0 ∨ 4611686018427387904 < seq
  · go_enter Tryd.func3, Tryd.ntmps3
    go_wp2_with fail
    refine (put_range seq _ _ hs).mono ?_
    rintro e w1 ⟨rfl, rfl⟩
    go_wp2_with fail
    refine (fault_range seq _ _ hs).mono ?_
    rintro e w1 ⟨rfl, rfl⟩
    go_wp2_with fail
    refine (error_some 1 1 _ HE.out true rfl).mono ?_
    rintro e w1 ⟨rfl, hb1⟩
    go_wp2_with fail
    go_ret
    exact ⟨rfl, hb1⟩
  have h0 : 0 ≤ seq := by omega
  have h1 : seq ≤ 4611686018427387904 := by omega
  clear hs
  by_cases hm : n ≤ 4096
  · go_enter Tryd.func3, Tryd.ntmps3
    go_wp2_with fail
    refine (put_ok seq A a n c _ HN.out h0 h1 hm ra).mono ?_
    rintro e w1 ⟨B1, c1, rfl, hc1, ho1, hb1⟩
    have hr1 := own_rd ho1
    go_wp2_with fail
    refine (fault_ok seq A n c _ h0 h1 hm).mono ?_
    rintro e w2 ⟨rfl, rfl⟩
    go_wp2_with fail
    refine (error_nil 0 _ true rfl).mono ?_
    rintro e w2 ⟨rfl, hb2'⟩
    have hr2 := hr1.below hb2'
    have hb2 := hb1.trans (hb2'.mono hb1.size)
    go_wp2_with fail
    refine (slotOf_any seq A a n c _ HN.out h0 h1 hm (ra.below hb2)).mono ?_
    rintro e w3 ⟨B3, c3, rfl, hc3, ho3, hb3'⟩
    have hr3 := own_rd ho3
    have hr13 := hr2.below hb3'
    have hb3 := hb2.trans (hb3'.mono hb2.size)
    have HSB := hide (show 16 + n = (slotB seq.toNat a).length by rw [slotB_length, ← HN.out])
    go_wp2_with fail
    refine (same_any B1 B3 (slotB seq.toNat a) (slotB seq.toNat a) (16 + n) (16 + n) _ _ _ HSB.out HSB.out (by omega) hr13 hr3 true (by simp)).mono ?_
    rintro e w4 ⟨rfl, d, rfl⟩
    go_wp2_with fail
    go_ret
    exact ⟨rfl, below_drewN hb3 d⟩
  · have hm' : 4096 < n := by omega
    go_enter Tryd.func3, Tryd.ntmps3
    go_wp2_with fail
    refine (put_full seq A n c _ h0 h1 hm').mono ?_
    rintro e w1 ⟨rfl, rfl⟩
    go_wp2_with fail
    refine (fault_full seq A n c _ h0 h1 hm').mono ?_
    rintro e w1 ⟨rfl, rfl⟩
    go_wp2_with fail
    refine (error_some 3 3 _ HE.out true rfl).mono ?_
    rintro e w1 ⟨rfl, hb1⟩
    go_wp2_with fail
    go_ret
    exact ⟨rfl, hb1⟩

theorem body_long2 {l : List UInt8} (h : Whole l) : longS l = (bodyS l).length := (bodyS_length h.2.2.2.1).symm

theorem whole_sel {a b : List UInt8} (ha : Whole a) (hb : Whole b) {k : Int} {l : List UInt8} (h : Sel a b k l) : (k = 1 ∧ l = b ∧ seqS a < seqS b) ∨ (k = 0 ∧ l = a ∧ seqS b ≤ seqS a) := by
  rcases h with ⟨rfl, rfl, h1, h3⟩ | ⟨rfl, rfl, h1, h3⟩
  · exact .inr ⟨rfl, rfl, h3 hb⟩
  · exact .inl ⟨rfl, rfl, h3 ha⟩

set_option maxRecDepth 100000 in
set_option maxHeartbeats 4000000 in
theorem chooses_law (w : World) (hE : ErrT w) (A : Option Addr) (a : List UInt8) (n c : Nat) (hn : n = a.length) (hnc : n ≤ c) (hcm' : c ≤ 140737488351232) (ra : Rd w A (u8v a)) (C : Option Addr) (b : List UInt8) (m d : Nat) (hm : m = b.length) (hmd : m ≤ d) (hdm' : d ≤ 140737488351232) (rb : Rd w C (u8v b)) :
    Calls Tryd.prog 5 #[.slice A n c, .slice C m d] w fun e w' => e = .returned (.bool true) ∧ Below w.heap.size w w' := by
  have hcm : c ≤ 9223372036854775807 := by omega
  have hdm : d ≤ 9223372036854775807 := by omega
  clear hcm' hdm'
  have HN := hide hn
  have HM := hide hm
  have HE := hide hE
  clear hn hm hE
  go_enter Tryd.func5, Tryd.ntmps5
  go_wp2_with fail
  refine (seq_any A a n c _ HN.out hnc hcm ra).mono ?_
  rintro e w1 ⟨hb1, h1⟩
  rcases h1 with ⟨hWa, rfl⟩ | ⟨hWa, B1, c1, rfl, hr1, hc1⟩
  · go_wp2_with fail
    refine (seq_any C b m d _ HM.out hmd hdm (rb.below hb1)).mono ?_
    rintro e w2 ⟨hb2', h2⟩
    have hb2 := hb1.trans (hb2'.mono hb1.size)
    rcases h2 with ⟨hWb, rfl⟩ | ⟨hWb, B2, c2, rfl, hr2, hc2⟩
    · go_wp2_with fail
      refine (choose_any A C a b n m c d _ HN.out HM.out hnc hmd hcm hdm (ra.below hb2) (rb.below hb2)).mono ?_
      rintro e w3 ⟨hb3', h3⟩
      have hb3 := hb2.trans (hb3'.mono hb2.size)
      rcases h3 with ⟨-, -, rfl⟩ | ⟨k3, l3, B3, c3, hS3, -⟩
      · go_wp2_with fail
        refine (next_any A C a b n m c d _ HN.out HM.out hnc hmd hcm hdm (ra.below hb3) (rb.below hb3)).mono ?_
        rintro e w4 ⟨hb4', h4⟩
        have hb4 := hb3.trans (hb4'.mono hb3.size)
        rcases h4 with ⟨-, -, rfl⟩ | ⟨k4, l4, hS4, -⟩
        · have HE4 := hide (HE.out.below hb4 (Nat.le_refl _))
          go_wp2_with fail
          refine (error_some 4 4 _ HE4.out true rfl).mono ?_
          rintro e w5 ⟨rfl, hb5⟩
          go_wp2_with fail
          go_ret
          exact ⟨rfl, hb4.trans (hb5.mono hb4.size)⟩
        · rcases hS4 with ⟨_, _, h, _⟩ | ⟨_, _, h, _⟩
          · exact absurd h hWa
          · exact absurd h hWb
      · rcases hS3 with ⟨_, _, h, _⟩ | ⟨_, _, h, _⟩
        · exact absurd h hWa
        · exact absurd h hWb
    · go_wp2_with fail
      refine (choose_any A C a b n m c d _ HN.out HM.out hnc hmd hcm hdm (ra.below hb2) (rb.below hb2)).mono ?_
      rintro e w3 ⟨hb3', h3⟩
      have hb3 := hb2.trans (hb3'.mono hb2.size)
      have hr23 := hr2.below hb3'
      rcases h3 with ⟨-, h, -⟩ | ⟨k3, l3, B3, c3, hS3, rfl, hr3, hc3⟩
      · exact absurd hWb h
      obtain ⟨rfl, rfl⟩ : k3 = 1 ∧ l3 = b := by
        rcases hS3 with ⟨_, _, h, _⟩ | ⟨h1, h2, _, _⟩
        · exact absurd h hWa
        · exact ⟨h1, h2⟩
      go_wp2_with fail
      refine (next_any A C a l3 n m c d _ HN.out HM.out hnc hmd hcm hdm (ra.below hb3) (rb.below hb3)).mono ?_
      rintro e w4 ⟨hb4', h4⟩
      have hb4 := hb3.trans (hb4'.mono hb3.size)
      have hr24 := hr23.below hb4'
      have hr34 := hr3.below hb4'
      rcases h4 with ⟨-, h, -⟩ | ⟨k4, l4, hS4, rfl⟩
      · exact absurd hWb h
      obtain ⟨rfl, rfl⟩ := sel_unique hS4 hS3
      have HBL := hide (body_long2 hWb)
      have hlb := hWb.2.2.1
      have hsb := hWb.2.1
      clear hS3 hS4 hWa hWb
      have hpos : ¬ ((seqS l4 : Int) < 0) := by omega
      have hgt : (-1 : Int) < (seqS l4 : Int) := by omega
      go_wp2_with fail
      refine (same_any B3 B2 (bodyS l4) (bodyS l4) (longS l4) (longS l4) _ _ _ HBL.out HBL.out (by omega) hr34 hr24 true (by simp)).mono ?_
      rintro e w5 ⟨rfl, dd, rfl⟩
      go_wp2_with fail
      go_ret
      exact ⟨by simp, below_drewN hb4 dd⟩
  · go_wp2_with fail
    refine (seq_any C b m d _ HM.out hmd hdm (rb.below hb1)).mono ?_
    rintro e w2 ⟨hb2', h2⟩
    have hb2 := hb1.trans (hb2'.mono hb1.size)
    have hr12 := hr1.below hb2'
    have hsa := hWa.2.1
    have hposa : ¬ ((seqS a : Int) < 0) := by omega
    rcases h2 with ⟨hWb, rfl⟩ | ⟨hWb, B2, c2, rfl, hr2, hc2⟩
    · go_wp2_with fail
      refine (choose_any A C a b n m c d _ HN.out HM.out hnc hmd hcm hdm (ra.below hb2) (rb.below hb2)).mono ?_
      rintro e w3 ⟨hb3', h3⟩
      have hb3 := hb2.trans (hb3'.mono hb2.size)
      have hr13 := hr12.below hb3'
      rcases h3 with ⟨h, -, -⟩ | ⟨k3, l3, B3, c3, hS3, rfl, hr3, hc3⟩
      · exact absurd hWa h
      obtain ⟨rfl, rfl⟩ : k3 = 0 ∧ l3 = a := by
        rcases hS3 with ⟨h1, h2, _, _⟩ | ⟨_, _, h, _⟩
        · exact ⟨h1, h2⟩
        · exact absurd h hWb
      go_wp2_with fail
      refine (next_any A C l3 b n m c d _ HN.out HM.out hnc hmd hcm hdm (ra.below hb3) (rb.below hb3)).mono ?_
      rintro e w4 ⟨hb4', h4⟩
      have hb4 := hb3.trans (hb4'.mono hb3.size)
      have hr14 := hr13.below hb4'
      have hr34 := hr3.below hb4'
      rcases h4 with ⟨h, -, -⟩ | ⟨k4, l4, hS4, rfl⟩
      · exact absurd hWa h
      obtain ⟨rfl, rfl⟩ := sel_unique hS4 hS3
      have HBL := hide (body_long2 hWa)
      have hlb := hWa.2.2.1
      clear hS3 hS4 hWa hWb
      have hgt : ¬ ((seqS l4 : Int) < -1) := by omega
      go_wp2_with fail
      refine (same_any B3 B1 (bodyS l4) (bodyS l4) (longS l4) (longS l4) _ _ _ HBL.out HBL.out (by omega) hr34 hr14 true (by simp)).mono ?_
      rintro e w5 ⟨rfl, dd, rfl⟩
      go_wp2_with fail
      go_ret
      exact ⟨by simp, below_drewN hb4 dd⟩
    · have hsb := hWb.2.1
      go_wp2_with fail
      refine (choose_any A C a b n m c d _ HN.out HM.out hnc hmd hcm hdm (ra.below hb2) (rb.below hb2)).mono ?_
      rintro e w3 ⟨hb3', h3⟩
      have hb3 := hb2.trans (hb3'.mono hb2.size)
      have hr13 := hr12.below hb3'
      have hr23 := hr2.below hb3'
      rcases h3 with ⟨h, -, -⟩ | ⟨k3, l3, B3, c3, hS3, rfl, hr3, hc3⟩
      · exact absurd hWa h
      go_wp2_with fail
      refine (next_any A C a b n m c d _ HN.out HM.out hnc hmd hcm hdm (ra.below hb3) (rb.below hb3)).mono ?_
      rintro e w4 ⟨hb4', h4⟩
      have hb4 := hb3.trans (hb4'.mono hb3.size)
      have hr14 := hr13.below hb4'
      have hr24 := hr23.below hb4'
      have hr34 := hr3.below hb4'
      rcases h4 with ⟨h, -, -⟩ | ⟨k4, l4, hS4, rfl⟩
      · exact absurd hWa h
      obtain ⟨rfl, rfl⟩ := sel_unique hS4 hS3
      have hw := whole_sel hWa hWb hS3
      have HBA := hide (body_long2 hWa)
      have HBB := hide (body_long2 hWb)
      have hla := hWa.2.2.1
      have hlb := hWb.2.2.1
      clear hS3 hS4 hWa hWb
      rcases hw with ⟨rfl, rfl, hlt⟩ | ⟨rfl, rfl, hle⟩
      · have hgt : (seqS a : Int) < (seqS l4 : Int) := by omega
        clear hlt
        go_wp2_with fail
        refine (same_any B3 B2 (bodyS l4) (bodyS l4) (longS l4) (longS l4) _ _ _ HBB.out HBB.out (by omega) hr34 hr24 true (by simp)).mono ?_
        rintro e w5 ⟨rfl, dd, rfl⟩
        go_wp2_with fail
        go_ret
        exact ⟨by simp, below_drewN hb4 dd⟩
      · have hgt : ¬ (seqS l4 : Int) < (seqS b : Int) := by omega
        clear hle
        go_wp2_with fail
        refine (same_any B3 B1 (bodyS l4) (bodyS l4) (longS l4) (longS l4) _ _ _ HBA.out HBA.out (by omega) hr34 hr14 true (by simp)).mono ?_
        rintro e w5 ⟨rfl, dd, rfl⟩
        go_wp2_with fail
        go_ret
        exact ⟨by simp, below_drewN hb4 dd⟩
end Go.Proofs.YtmjnfjbbdebddaaDoor.SlotW
