/- The walk of granarylaw1.SlotSafe: true, and nothing that was there is written. -/
import Derived.Test.YtmjnfjbbdebddaaDoorSlotSeq
import Derived.Test.YtmjnfjbbdebddaaDoorTold
set_option linter.unusedVariables false
namespace Go.Proofs.YtmjnfjbbdebddaaDoor.SlotW
open Go.RowKit Fram SlotP CrcW Crc RefW ToldW

/-- slot.Put(3, []byte{1}). -/
theorem fact_put3 (w : World) : Calls Tryd.prog 9 #[.int .i64 3, .slice (some ⟨w.heap.size, 0, none⟩) 1 1] (w.alloc (.cells #[.int .u8 1] 5)) fun e w' => ∃ B c', e = .returned (.tuple #[.slice B 17 c', .nilIface]) ∧ Below w.heap.size w w' := by
  have hb : Below w.heap.size w (w.alloc (.cells #[.int .u8 1] 5)) := (Below.refl _ _).alloc (Nat.le_refl _) _
  refine (put_ok 3 _ [1] 1 1 _ rfl (by omega) (by omega) (by omega) (Rd.one w 5 (.int .u8 1))).mono ?_
  rintro e w' ⟨B, c', rfl, -, -, hb2⟩
  exact ⟨B, c', rfl, hb.trans (hb2.mono (by simp))⟩

theorem body_long3 {l : List UInt8} (h : Whole l) : longS l = (bodyS l).length := (bodyS_length h.2.2.2.1).symm
theorem sel_isWhole3 {a b : List UInt8} {k : Int} {l : List UInt8} (h : Sel a b k l) : Whole l := by
  rcases h with ⟨_, rfl, h, _⟩ | ⟨_, rfl, h, _⟩ <;> exact h

/-- A newer whole slot in the other place is chosen. -/
theorem sel_new0 {a b q : List UInt8} {l : List UInt8} (h : Sel a b 0 l) (hq : Whole q) (hn : seqS l < seqS q) {k' : Int} {l' : List UInt8} (h2 : Sel a q k' l') : k' = 1 ∧ l' = q := by
  rcases h with ⟨_, rfl, h1, _⟩ | ⟨h, _⟩
  · rcases h2 with ⟨rfl, rfl, _, g⟩ | ⟨rfl, rfl, _⟩
    · have := g hq; omega
    · exact ⟨rfl, rfl⟩
  · omega
theorem sel_new1 {a b q : List UInt8} {l : List UInt8} (h : Sel a b 1 l) (hq : Whole q) (hn : seqS l < seqS q) {k' : Int} {l' : List UInt8} (h2 : Sel q b k' l') : k' = 0 ∧ l' = q := by
  rcases h with ⟨h, _⟩ | ⟨_, rfl, h1, _⟩
  · omega
  · rcases h2 with ⟨rfl, rfl, _, _⟩ | ⟨rfl, rfl, _, g⟩
    · exact ⟨rfl, rfl⟩
    · have := g hq; omega
/-- One that is not whole leaves what was chosen. -/
theorem sel_old0 {a b q : List UInt8} {l : List UInt8} (h : Sel a b 0 l) (hq : ¬ Whole q) {k' : Int} {l' : List UInt8} (h2 : Sel a q k' l') : k' = 0 ∧ l' = l := by
  rcases h with ⟨_, rfl, h1, _⟩ | ⟨h, _⟩
  · rcases h2 with ⟨rfl, rfl, _, _⟩ | ⟨rfl, rfl, g, _⟩
    · exact ⟨rfl, rfl⟩
    · exact absurd g hq
  · omega
theorem sel_old1 {a b q : List UInt8} {l : List UInt8} (h : Sel a b 1 l) (hq : ¬ Whole q) {k' : Int} {l' : List UInt8} (h2 : Sel q b k' l') : k' = 1 ∧ l' = l := by
  rcases h with ⟨h, _⟩ | ⟨_, rfl, h1, _⟩
  · omega
  · rcases h2 with ⟨rfl, rfl, g, _⟩ | ⟨rfl, rfl, _, _⟩
    · exact absurd g hq
    · exact ⟨rfl, rfl⟩

attribute [local irreducible] slotB headB lowB seqS longS bodyS sumS

set_option maxRecDepth 100000 in
set_option maxHeartbeats 8000000 in
theorem safe_law (w : World) (hE : ErrT w) (A : Option Addr) (a : List UInt8) (n c : Nat) (hn : n = a.length) (hnc : n ≤ c) (hcm' : c ≤ 140737488351232) (ra : Rd w A (u8v a)) (C : Option Addr) (b : List UInt8) (m d : Nat) (hm : m = b.length) (hmd : m ≤ d) (hdm' : d ≤ 140737488351232) (rb : Rd w C (u8v b))
    (seq : Int) (t1 : -9223372036854775808 ≤ seq) (t2 : seq ≤ 9223372036854775807) (D : Option Addr) (x : List UInt8) (p f : Nat) (hp : p = x.length) (hpf : p ≤ f) (hfm' : f ≤ 140737488351232) (rx : Rd w D (u8v x)) (cut : Int) (t3 : -9223372036854775808 ≤ cut) (t4 : cut ≤ 9223372036854775807) :
    Calls Tryd.prog 6 #[.slice A n c, .slice C m d, .int .i64 seq, .slice D p f, .int .i64 cut] w fun e w' => e = .returned (.bool true) ∧ Below w.heap.size w w' := by
  have hcm : c ≤ 9223372036854775807 := by omega
  have hdm : d ≤ 9223372036854775807 := by omega
  clear hcm' hdm' hfm'
  have HN := hide hn
  have HM := hide hm
  have HP := hide hp
  have HE := hide hE
  clear hn hm hp hE
  go_enter Tryd.func6, Tryd.ntmps6
  go_wp2_with fail
  refine (fact_put3 w).mono ?_
  rintro e w1 ⟨B1, c1, rfl, hb1⟩
  go_wp2_with fail
  refine (choose_any A C a b n m c d _ HN.out HM.out hnc hmd hcm hdm (ra.below hb1) (rb.below hb1)).mono ?_
  rintro e w2 ⟨hb2', h2⟩
  have hb2 := hb1.trans (hb2'.mono hb1.size)
  clear hb2' hb1
  by_cases hput : 0 ≤ seq ∧ seq ≤ 4611686018427387904 ∧ p ≤ 4096
  rotate_left
  · by_cases hs : seq < 0 ∨ 4611686018427387904 < seq
    · rcases h2 with ⟨hWa, hWb, rfl⟩ | ⟨k, l, B2, c2, hS2, rfl, hr2, hc2⟩
      all_goals
        go_wp2_with fail
        refine (put_range seq _ _ hs).mono ?_
        rintro e w3 ⟨rfl, rfl⟩
        go_wp2_with fail
        go_ret
        exact ⟨rfl, hb2⟩
    · rcases h2 with ⟨hWa, hWb, rfl⟩ | ⟨k, l, B2, c2, hS2, rfl, hr2, hc2⟩
      all_goals
        go_wp2_with fail
        refine (put_full seq D p f _ (by omega) (by omega) (by omega)).mono ?_
        rintro e w3 ⟨rfl, rfl⟩
        go_wp2_with fail
        go_ret
        exact ⟨rfl, hb2⟩
  obtain ⟨s0, s1, hp4⟩ := hput
  have HSB := hide (show 16 + p = (slotB seq.toNat x).length by rw [slotB_length, ← HP.out])
  have HREAD := hide (slot_reads seq.toNat x [] (by omega) (by rw [← HP.out]; exact hp4))
  simp only [List.append_nil] at HREAD
  have HPART : Hid (∀ c, c < 16 + p → ¬ Whole ((slotB seq.toNat x).take c)) := hide (fun c hc => part_not_whole seq.toNat x (by omega) (by rw [← HP.out]; exact hp4) c (by rw [← HP.out]; exact hc))
  have hz : ((16 + (p : Int)) == 0) = false := by simp; omega
  have hk := pickN_lt cut (16 + p + 1) (by omega)
  rcases h2 with ⟨hWa, hWb, rfl⟩ | ⟨k, l, B2, c2, hS2, rfl, hr2, hc2⟩
  · -- neither was whole
    have HNO := hide (And.intro hWa hWb)
    clear hWa hWb
    go_wp2_with fail
    refine (put_ok seq D x p f _ HP.out s0 s1 hp4 (rx.below hb2)).mono ?_
    rintro e w3 ⟨B3, c3, rfl, hc3, ho3, hb3'⟩
    have hb3 := hb2.trans (hb3'.mono hb2.size)
    have hr3 := own_rd ho3
    have hcap : c3 ≤ 9223372036854775807 := by
      obtain ⟨_, cap, _, hv, _, _, _, _, hm2, _, _⟩ := own_block ho3 (by omega)
      injection hv with _ _ hv
      subst hv
      exact hm2
    clear ho3 hb3' hb2
    go_wp2_with fail
    refine (pick_any cut (16 + p + 1) _ (by omega) (by omega) (by omega) t3 t4 _).mono ?_
    rintro e w4 ⟨rfl, rfl⟩
    generalize pickN cut (16 + p + 1) = q at hk
    have hrq : Rd w3 B3 (u8v ((slotB seq.toNat x).take q)) := by simpa [u8v] using hr3.take q
    have HQL := hide (show q = ((slotB seq.toNat x).take q).length by rw [List.length_take, ← HSB.out]; omega)
    have hqc : q ≤ c3 := by omega
    have hqi : (q : Int) ≤ (c3 : Int) := by omega
    go_wp2_with fail
    refine (next_any A C a b n m c d _ HN.out HM.out hnc hmd hcm hdm (ra.below hb3) (rb.below hb3)).mono ?_
    rintro e w5 ⟨hb5', h5⟩
    have hb5 := hb3.trans (hb5'.mono hb3.size)
    have hrq5 := hrq.below hb5'
    rcases h5 with ⟨-, -, rfl⟩ | ⟨k5, l5, hS5, -⟩
    rotate_left
    · rcases hS5 with ⟨_, _, h, _⟩ | ⟨_, _, h, _⟩
      · exact absurd h HNO.out.1
      · exact absurd h HNO.out.2
    clear hb5' hb3 hrq
    go_wp2_with fail
    refine (choose_any B3 C ((slotB seq.toNat x).take q) b q m c3 d _ HQL.out HM.out hqc hmd hcap hdm hrq5 (rb.below hb5)).mono ?_
    rintro e w6 ⟨hb6', h6⟩
    have hb6 := hb5.trans (hb6'.mono hb5.size)
    by_cases hq : q = 16 + p
    · have HTK := hide (show (slotB seq.toNat x).take q = slotB seq.toNat x by rw [List.take_of_length_le (by rw [← HSB.out]; omega)])
      rw [HTK.out] at h6
      rcases h6 with ⟨h, -, -⟩ | ⟨k6, l6, B6, c6, hS6, rfl, hr6, hc6⟩
      · exact absurd HREAD.out.2.2.2 h
      obtain ⟨rfl, rfl⟩ : k6 = 0 ∧ l6 = slotB seq.toNat x := by
        rcases hS6 with ⟨g1, g2, _, _⟩ | ⟨_, _, g, _⟩
        · exact ⟨g1, g2⟩
        · exact absurd g HNO.out.2
      rw [HREAD.out.1, HREAD.out.2.1, ← HP.out]
      rw [HREAD.out.2.2.1] at hr6
      have hqq : (q : Int) = 16 + (p : Int) := by omega
      have hsq : ((seq.toNat : Nat) : Int) = seq := by omega
      have hqe : ((q : Int) == 16 + (p : Int)) = true := by rw [hqq]; simp
      clear hqq hq
      rw [hsq]
      clear hsq hS6
      go_wp2_with fail
      refine (same_any B6 D x x p p _ _ _ HP.out HP.out (by omega) hr6 (rx.below hb6) true (by simp)).mono ?_
      rintro e w7 ⟨rfl, dd, rfl⟩
      go_wp2_with fail
      go_ret
      exact ⟨by simp, below_drewN hb6 dd⟩
    · have hbad := HPART.out q (by omega)
      rcases h6 with ⟨-, -, rfl⟩ | ⟨k6, l6, B6, c6, hS6, -⟩
      rotate_left
      · rcases hS6 with ⟨_, _, g, _⟩ | ⟨_, _, g, _⟩
        · exact absurd g hbad
        · exact absurd g HNO.out.2
      have hne : ((q : Int) == 16 + (p : Int)) = false := by simp; omega
      have HE6 := hide (HE.out.below hb6 (Nat.le_refl _))
      clear hbad hq
      go_wp2_with fail
      refine (error_some 4 4 _ HE6.out true rfl).mono ?_
      rintro e w7 ⟨rfl, hb7⟩
      go_wp2_with fail
      go_ret
      exact ⟨rfl, hb6.trans (hb7.mono hb6.size)⟩
  · -- one was chosen
    obtain ⟨hk0, hk1⟩ := sel_k hS2
    have HBL := hide (body_long3 (sel_isWhole3 hS2))
    have hlb := (sel_isWhole3 hS2).2.2.1
    have HS2 := hide hS2
    clear hS2
    go_wp2_with fail
    refine (put_ok seq D x p f _ HP.out s0 s1 hp4 (rx.below hb2)).mono ?_
    rintro e w3 ⟨B3, c3, rfl, hc3, ho3, hb3'⟩
    have hb3 := hb2.trans (hb3'.mono hb2.size)
    have hr3 := own_rd ho3
    have hr23 := hr2.below hb3'
    have hcap : c3 ≤ 9223372036854775807 := by
      obtain ⟨_, cap, _, hv, _, _, _, _, hm2, _, _⟩ := own_block ho3 (by omega)
      injection hv with _ _ hv
      subst hv
      exact hm2
    clear ho3 hb3' hb2 hr2
    by_cases hle : seq ≤ (seqS l : Int)
    · go_wp2_with fail
      go_ret
      exact ⟨rfl, hb3⟩
    have hlt : (seqS l : Int) < seq := by omega
    clear hle
    go_wp2_with fail
    refine (pick_any cut (16 + p + 1) _ (by omega) (by omega) (by omega) t3 t4 _).mono ?_
    rintro e w4 ⟨rfl, rfl⟩
    generalize pickN cut (16 + p + 1) = q at hk
    have hrq : Rd w3 B3 (u8v ((slotB seq.toNat x).take q)) := by simpa [u8v] using hr3.take q
    have HQL := hide (show q = ((slotB seq.toNat x).take q).length by rw [List.length_take, ← HSB.out]; omega)
    have hqc : q ≤ c3 := by omega
    have hqi : (q : Int) ≤ (c3 : Int) := by omega
    go_wp2_with fail
    refine (next_any A C a b n m c d _ HN.out HM.out hnc hmd hcm hdm (ra.below hb3) (rb.below hb3)).mono ?_
    rintro e w5 ⟨hb5', h5⟩
    have hb5 := hb3.trans (hb5'.mono hb3.size)
    have hrq5 := hrq.below hb5'
    have hr25 := hr23.below hb5'
    rcases h5 with ⟨h1, h2, -⟩ | ⟨k5, l5, hS5, rfl⟩
    · rcases HS2.out with ⟨_, _, h, _⟩ | ⟨_, _, h, _⟩
      · exact absurd h h1
      · exact absurd h h2
    obtain ⟨rfl, rfl⟩ := sel_unique hS5 HS2.out
    clear hS5
    obtain rfl | rfl : k5 = 0 ∨ k5 = 1 := by omega
    · clear hb5' hb3 hrq
      go_wp2_with fail
      refine (choose_any A B3 a ((slotB seq.toNat x).take q) n q c c3 _ HN.out HQL.out hnc hqc hcm hcap (ra.below hb5) hrq5).mono ?_
      rintro e w6 ⟨hb6', h6⟩
      have hb6 := hb5.trans (hb6'.mono hb5.size)
      have hr26 := hr25.below hb6'
      by_cases hq : q = 16 + p
      · have HTK := hide (show (slotB seq.toNat x).take q = slotB seq.toNat x by rw [List.take_of_length_le (by rw [← HSB.out]; omega)])
        rw [HTK.out] at h6
        rcases h6 with ⟨-, h, -⟩ | ⟨k6, l6, B6, c6, hS6, rfl, hr6, hc6⟩
        · exact absurd HREAD.out.2.2.2 h
        obtain ⟨rfl, rfl⟩ := sel_new0 HS2.out HREAD.out.2.2.2 (by rw [HREAD.out.1]; omega) hS6
        rw [HREAD.out.1, HREAD.out.2.1, ← HP.out]
        rw [HREAD.out.2.2.1] at hr6
        have hqq : (q : Int) = 16 + (p : Int) := by omega
        have hsq : ((seq.toNat : Nat) : Int) = seq := by omega
        have hqe : ((q : Int) == 16 + (p : Int)) = true := by rw [hqq]; simp
        clear hqq hq
        rw [hsq]
        clear hsq hS6
        go_wp2_with fail
        refine (same_any B6 D x x p p _ _ _ HP.out HP.out (by omega) hr6 (rx.below hb6) true (by simp)).mono ?_
        rintro e w7 ⟨rfl, dd, rfl⟩
        go_wp2_with fail
        go_ret
        exact ⟨by simp, below_drewN hb6 dd⟩
      · have hbad := HPART.out q (by omega)
        rcases h6 with ⟨h, -, -⟩ | ⟨k6, l6, B6, c6, hS6, rfl, hr6, hc6⟩
        · have hw := sel_isWhole3 HS2.out
          rcases HS2.out with ⟨g, rfl, _, _⟩ | ⟨g, rfl, _, _⟩
          · exact absurd hw h
          · omega
        obtain ⟨rfl, rfl⟩ := sel_old0 HS2.out hbad hS6
        have hne : ((q : Int) == 16 + (p : Int)) = false := by simp; omega
        clear hbad hq hS6
        go_wp2_with fail
        refine (same_any B6 B2 (bodyS l6) (bodyS l6) (longS l6) (longS l6) _ _ _ HBL.out HBL.out (by omega) hr6 hr26 true (by simp)).mono ?_
        rintro e w7 ⟨rfl, dd, rfl⟩
        go_wp2_with fail
        go_ret
        exact ⟨by simp, below_drewN hb6 dd⟩
    · clear hb5' hb3 hrq
      go_wp2_with fail
      refine (choose_any B3 C ((slotB seq.toNat x).take q) b q m c3 d _ HQL.out HM.out hqc hmd hcap hdm hrq5 (rb.below hb5)).mono ?_
      rintro e w6 ⟨hb6', h6⟩
      have hb6 := hb5.trans (hb6'.mono hb5.size)
      have hr26 := hr25.below hb6'
      by_cases hq : q = 16 + p
      · have HTK := hide (show (slotB seq.toNat x).take q = slotB seq.toNat x by rw [List.take_of_length_le (by rw [← HSB.out]; omega)])
        rw [HTK.out] at h6
        rcases h6 with ⟨h, -, -⟩ | ⟨k6, l6, B6, c6, hS6, rfl, hr6, hc6⟩
        · exact absurd HREAD.out.2.2.2 h
        obtain ⟨rfl, rfl⟩ := sel_new1 HS2.out HREAD.out.2.2.2 (by rw [HREAD.out.1]; omega) hS6
        rw [HREAD.out.1, HREAD.out.2.1, ← HP.out]
        rw [HREAD.out.2.2.1] at hr6
        have hqq : (q : Int) = 16 + (p : Int) := by omega
        have hsq : ((seq.toNat : Nat) : Int) = seq := by omega
        have hqe : ((q : Int) == 16 + (p : Int)) = true := by rw [hqq]; simp
        clear hqq hq
        rw [hsq]
        clear hsq hS6
        go_wp2_with fail
        refine (same_any B6 D x x p p _ _ _ HP.out HP.out (by omega) hr6 (rx.below hb6) true (by simp)).mono ?_
        rintro e w7 ⟨rfl, dd, rfl⟩
        go_wp2_with fail
        go_ret
        exact ⟨by simp, below_drewN hb6 dd⟩
      · have hbad := HPART.out q (by omega)
        rcases h6 with ⟨-, h, -⟩ | ⟨k6, l6, B6, c6, hS6, rfl, hr6, hc6⟩
        · have hw := sel_isWhole3 HS2.out
          rcases HS2.out with ⟨g, rfl, _, _⟩ | ⟨g, rfl, _, _⟩
          · omega
          · exact absurd hw h
        obtain ⟨rfl, rfl⟩ := sel_old1 HS2.out hbad hS6
        have hne : ((q : Int) == 16 + (p : Int)) = false := by simp; omega
        clear hbad hq hS6
        go_wp2_with fail
        refine (same_any B6 B2 (bodyS l6) (bodyS l6) (longS l6) (longS l6) _ _ _ HBL.out HBL.out (by omega) hr6 hr26 true (by simp)).mono ?_
        rintro e w7 ⟨rfl, dd, rfl⟩
        go_wp2_with fail
        go_ret
        exact ⟨by simp, below_drewN hb6 dd⟩
end Go.Proofs.YtmjnfjbbdebddaaDoor.SlotW
