/- The walk of slices' stableCmpFunc and SortStableFunc at ints. -/
import Derived.Test.YtndiionpijjdbaaDoorStabG
import Derived.Outline
set_option linter.unusedVariables false
namespace Go.Proofs.YtndiionpijjdbaaDoor.Stab
open Go.RowKit I64

/-- All chunks of s are sorted, and are the chunks of X in another order. -/
def Lev (C : Int → Int → Int) (X L : List Int) (s c : Nat) : Prop := Srt C (ch s c L) ∧ (ch s c L).Perm (ch s c X)
theorem Lev.srt {C : Int → Int → Int} {X L : List Int} {s c : Nat} (h : Lev C X L s c) : Srt C (ch s c L) := h.1
theorem Lev.perm {C : Int → Int → Int} {X L : List Int} {s c : Nat} (h : Lev C X L s c) : (ch s c L).Perm (ch s c X) := h.2
theorem lev_len {C : Int → Int → Int} {X L : List Int} {s c : Nat} (h : Lev C X L s c) : (ch s c L).length = (ch s c X).length := h.2.length_eq
theorem ch_at (s c : Nat) (L : List Int) (h : s * c ≤ L.length) : L = L.take (s * c) ++ ch s c L ++ L.drop (s * c + (ch s c L).length) := by
  unfold ch
  rw [List.length_take, List.length_drop]
  by_cases h1 : s ≤ L.length - s * c
  · rw [Nat.min_eq_left h1, List.append_assoc]
    conv => lhs; rw [← List.take_append_drop (s * c) L]
    congr 1
    conv => lhs; rw [← List.take_append_drop s (L.drop (s * c))]
    rw [List.drop_drop]
  · rw [Nat.min_eq_right (by omega), List.take_of_length_le (l := L.drop (s * c)) (by rw [List.length_drop]; omega), List.drop_of_length_le (l := L) (i := s * c + (L.length - s * c)) (by omega), List.append_nil, List.take_append_drop]
/-- Behind the insertion sort of chunk k. -/
structure InsL (C : Int → Int → Int) (X L : List Int) (s k : Nat) : Prop where
  len : L.length = X.length
  lo : ∀ c, c < k → Lev C X L s c
  up : ∀ c, k ≤ c → ch s c L = ch s c X
theorem InsL.start (C : Int → Int → Int) (X : List Int) (s : Nat) : InsL C X X s 0 := ⟨rfl, fun c h => absurd h (Nat.not_lt_zero c), fun _ _ => rfl⟩
theorem InsL.step {C : Int → Int → Int} {X L Z : List Int} {s k : Nat} (h : InsL C X L s k) (hs : 0 < s) (hk : s * k ≤ X.length) (hz : Z.Perm (ch s k L)) (hz2 : Srt C Z) : InsL C X (L.take (s * k) ++ Z ++ L.drop (s * k + (ch s k L).length)) s (k + 1) := by
  have hl := hz.length_eq
  rw [← hl]
  have sp := ch_splice s k L Z hs hl (by rw [h.len]; exact hk)
  refine ⟨?_, fun c hc => ?_, fun c hc => ?_⟩
  · have h1 := congrArg List.length (ch_at s k L (by rw [h.len]; exact hk))
    rw [← h.len]
    simp only [List.length_append] at h1 ⊢
    rw [hl]
    exact h1.symm
  · unfold Lev
    rw [sp c]
    by_cases e : c = k
    · rw [if_pos e, e]
      exact ⟨hz2, by rw [← h.up k (Nat.le_refl _)]; exact hz⟩
    · rw [if_neg e]
      exact h.lo c (by omega)
  · rw [sp c, if_neg (by omega)]
    exact h.up c (by omega)
/-- Behind the merging of the chunks below 2 k. -/
structure MrgL (C : Int → Int → Int) (X L : List Int) (s k : Nat) : Prop where
  len : L.length = X.length
  lo : ∀ c, c < k → Lev C X L (2 * s) c
  up : ∀ c, 2 * k ≤ c → Lev C X L s c
theorem MrgL.step {C : Int → Int → Int} {X L Z : List Int} {s k : Nat} (h : MrgL C X L s k) (hs : 0 < s) (hk : s * (2 * k) ≤ X.length) (hz : Z.Perm (ch s (2 * k) L ++ ch s (2 * k + 1) L)) (hz2 : Srt C Z) : MrgL C X (L.take (s * (2 * k)) ++ Z ++ L.drop (s * (2 * k) + Z.length)) s (k + 1) := by
  have e0 : s * (2 * k) = 2 * s * k := by rw [← Nat.mul_assoc, Nat.mul_comm s 2]
  have e1 : ch s (2 * k) L ++ ch s (2 * k + 1) L = ch (2 * s) k L := (ch_twice s k L).symm
  rw [e1] at hz
  have hl := hz.length_eq
  rw [e0] at hk ⊢
  have sp := ch_splice (2 * s) k L Z (by omega) hl (by rw [h.len]; exact hk)
  have hlen : (L.take (2 * s * k) ++ Z ++ L.drop (2 * s * k + Z.length)).length = X.length := by
    have h1 := congrArg List.length (ch_at (2 * s) k L (by rw [h.len]; exact hk))
    rw [← h.len]
    simp only [List.length_append] at h1 ⊢
    rw [hl]
    exact h1.symm
  refine ⟨hlen, fun c hc => ?_, fun c hc => ?_⟩
  · unfold Lev
    rw [sp c]
    by_cases e : c = k
    · rw [if_pos e, e]
      refine ⟨hz2, hz.trans ?_⟩
      rw [ch_twice, ch_twice]
      exact (h.up (2 * k) (by omega)).2.append (h.up (2 * k + 1) (by omega)).2
    · rw [if_neg e]
      exact h.lo c (by omega)
  · have key : ch s c (L.take (2 * s * k) ++ Z ++ L.drop (2 * s * k + Z.length)) = ch s c L := by
      rcases (show (∃ q, c = 2 * q) ∨ ∃ q, c = 2 * q + 1 from by rcases (show c = 2 * (c / 2) ∨ c = 2 * (c / 2) + 1 by omega) with e | e; exact .inl ⟨_, e⟩; exact .inr ⟨_, e⟩) with ⟨q, hq⟩ | ⟨q, hq⟩
      · have h2 := sp q
        rw [if_neg (by omega), ch_twice, ch_twice, ← hq] at h2
        refine (List.append_inj h2 ?_).1
        rw [ch_len, ch_len, hlen, h.len]
      · have h2 := sp q
        rw [if_neg (by omega), ch_twice, ch_twice, ← hq] at h2
        refine (List.append_inj h2 ?_).2
        rw [ch_len, ch_len, hlen, h.len]
    unfold Lev
    rw [key]
    exact h.up c (by omega)
/-- The last chunk stands alone, or is not there. -/
theorem MrgL.done {C : Int → Int → Int} {X L : List Int} {s k : Nat} (h : MrgL C X L s k) (hk : X.length ≤ s * (2 * k) + s) (c : Nat) : Lev C X L (2 * s) c := by
  by_cases hc : c < k
  · exact h.lo c hc
  · have e0 : s * (2 * c) = 2 * s * c := by rw [← Nat.mul_assoc, Nat.mul_comm s 2]
    have h1 : s * (2 * k) ≤ s * (2 * c) := Nat.mul_le_mul_left s (by omega)
    have h2 : s * (2 * c + 1) = s * (2 * c) + s := by rw [Nat.mul_add, Nat.mul_one]
    unfold Lev
    rw [ch_twice, ch_twice, ch_none s (2 * c + 1) L (by rw [h.len]; omega), ch_none s (2 * c + 1) X (by omega), List.append_nil, List.append_nil]
    exact h.up (2 * c) (by omega)
theorem MrgL.start {C : Int → Int → Int} {X L : List Int} {s : Nat} (hl : L.length = X.length) (h : ∀ c, Lev C X L s c) : MrgL C X L s 0 := ⟨hl, fun c hc => absurd hc (Nat.not_lt_zero c), fun c _ => h c⟩

theorem ch_pw {s c : Nat} {X : List Int} (h : X.Pairwise (· < ·)) : (ch s c X).Pairwise (· < ·) := (h.sublist (List.drop_sublist _ _)).sublist (List.take_sublist _ _)
/-- A list in four: what lies ahead, two chunks, what lies behind. -/
theorem ch_two (s k : Nat) (L : List Int) (h : s * (2 * k) ≤ L.length) : L = L.take (s * (2 * k)) ++ ch s (2 * k) L ++ ch s (2 * k + 1) L ++ L.drop (s * (2 * k) + (ch s (2 * k) L ++ ch s (2 * k + 1) L).length) := by
  have e0 : s * (2 * k) = 2 * s * k := by rw [← Nat.mul_assoc, Nat.mul_comm s 2]
  have h1 := ch_at (2 * s) k L (by rw [← e0]; exact h)
  rw [ch_twice, ← e0] at h1
  rw [List.append_assoc (L.take _)]
  exact h1
theorem ch_first (s c : Nat) (L : List Int) (h : s * c + s ≤ L.length) : (ch s c L).length = s := by rw [ch_len]; omega
theorem ch_last (s c : Nat) (L : List Int) (h : L.length ≤ s * c + s) : (ch s c L).length = L.length - s * c := by rw [ch_len]; omega

attribute [local irreducible] IB LT Srt MrgP ch Lev
set_option maxRecDepth 20000 in
set_option maxHeartbeats 4000000 in
theorem stable_any {C : Int → Int → Int} {W0 : World} {B : Nat} {cv : Value} {n0 : Int} (hC : Cmp C) (hcmp : CmpOk W0 B cv C n0) (g c n : Nat) (X : List Int) (tl : List Value) (w : World) (hW : Below B W0 w) (hBg : B ≤ g) (hb : IB w g X tl) (hX : X.Pairwise (· < ·)) (hin : ∀ u ∈ X, 0 ≤ u ∧ u < n0) (hn : n = X.length) (hn4 : n ≤ 4096) :
    Calls Tryd.prog 23 #[.slice (some ⟨g, 0, none⟩) n c, .int .i64 n, fv cv] w (SortP C w g [] X [] tl) := by
  have HC := hide hC
  have HCM := hide hcmp
  have HW := hide hW
  have HX := hide hX
  have HIN := hide hin
  have HN := hide hn
  have HB := hide hb
  have HGL : Hid (B ≤ w.heap.size) := hide (Nat.le_of_lt (Nat.lt_of_le_of_lt hBg hb.lt))
  have HI0 := hide (InsL.start C X 20)
  clear hC hcmp hW hb hX hin hn
  unfold fv
  go_enter Tryd.func23, Tryd.ntmps23
  go_wp2_with fail
  go_loopw [7, 8] (fun a b wr => ∃ (A : Nat) (k : Nat) (L : List Int), a = .int .i64 A ∧ b = .int .i64 ((A : Int) + 20) ∧ Hid (A = 20 * k) ∧ A ≤ n ∧ Hid (InsL C X L 20 k) ∧ Hid (IB wr g L tl) ∧ Hid (w.grownBy wr (some g))) (fun a _ _ => n + 20 - (intOf a).toNat)
  case atStart => exact ⟨0, 0, X, rfl, rfl, hide rfl, by omega, HI0, HB, hide (gr_refl _ _)⟩
  case round =>
    clear HB HI0
    obtain ⟨A, k, L, rfl, rfl, HA, hAn, HI, HB, HG⟩ := hrel
    have HLL : Hid (L.length = n) := hide (by rw [HI.out.len, HN.out])
    have HCH : Hid (ch 20 k L = ch 20 k X) := hide (HI.out.up k (Nat.le_refl _))
    have HSP : Hid (IB wr g (L.take A ++ ch 20 k L ++ L.drop (A + (ch 20 k L).length)) tl) := hide (by
      have h1 := ch_at 20 k L (by rw [HLL.out, ← HA.out]; exact hAn)
      rw [← HA.out] at h1
      rw [← h1]
      exact HB.out)
    have HTL : Hid (n = (L.take A).length + (ch 20 k L).length + (L.drop (A + (ch 20 k L).length)).length) := hide (by
      have h1 := congrArg List.length (ch_at 20 k L (by rw [HLL.out, ← HA.out]; exact hAn))
      rw [← HA.out] at h1
      simp only [List.length_append] at h1
      rw [← HLL.out]
      exact h1)
    have HTA : Hid ((L.take A).length = A) := hide (by rw [List.length_take, HLL.out]; omega)
    by_cases hlt : A + 20 ≤ n
    · have d1 : decide ((A : Int) + 20 ≤ (n : Int)) = true := by simp; omega
      have HIS := hide (ins_any HC.out HCM.out g c n (L.take A) (ch 20 k L) (L.drop (A + (ch 20 k L).length)) tl A ((A : Int) + 20) wr (low_gr HW.out HG.out hBg HGL.out) hBg HSP.out (by rw [HCH.out]; exact ch_pw HX.out) (fun u hu => HIN.out u (by rw [HCH.out] at hu; exact ch_sub _ _ _ u hu)) HTL.out hn4 (by rw [HTA.out]) (by rw [HTA.out, ch_first 20 k L (by rw [HLL.out, ← HA.out]; exact hlt)]; rfl))
      unfold fv at HIS
      go_wp2_with fail
      refine HIS.out.mono ?_
      rintro e w2 ⟨Z, hz1, hz2, rfl, hz3, hz4⟩
      have HI2 := hide (HI.out.step (by decide) (by rw [← HN.out, ← HA.out]; exact hAn) hz1 hz2)
      have HB2 := hide hz3
      have HG2 := hide (gr_trans HG.out hz4)
      rw [← HA.out] at HI2
      clear hz1 hz2 hz3 hz4
      go_wp2_with fail
      go_roundw
      case rel => exact ⟨A + 20, k + 1, _, by rw [Int.natCast_add]; rfl, by rw [Int.natCast_add]; rfl, hide (by have := HA.out; omega), by omega, HI2, HB2, HG2⟩
      case measure => simp [intOf]; omega
    · have d1 : decide ((A : Int) + 20 ≤ (n : Int)) = false := by simp; omega
      have HIS := hide (ins_any HC.out HCM.out g c n (L.take A) (ch 20 k L) (L.drop (A + (ch 20 k L).length)) tl A n wr (low_gr HW.out HG.out hBg HGL.out) hBg HSP.out (by rw [HCH.out]; exact ch_pw HX.out) (fun u hu => HIN.out u (by rw [HCH.out] at hu; exact ch_sub _ _ _ u hu)) HTL.out hn4 (by rw [HTA.out]) (by rw [HTA.out, ch_last 20 k L (by rw [HLL.out, ← HA.out]; omega), HLL.out, ← HA.out]; omega))
      unfold fv at HIS
      go_wp2_with fail
      refine HIS.out.mono ?_
      rintro e w2 ⟨Z, hz1, hz2, rfl, hz3, hz4⟩
      have HI2 := hide (HI.out.step (by decide) (by rw [← HN.out, ← HA.out]; exact hAn) hz1 hz2)
      have HB2 := hide hz3
      have HG2 := hide (gr_trans HG.out hz4)
      rw [← HA.out] at HI2
      clear hz1 hz2 hz3 hz4 HIS
      obtain ⟨L1, hL1⟩ : ∃ L1, L1 = L.take A ++ Z ++ L.drop (A + (ch 20 k L).length) := ⟨_, rfl⟩
      rw [← hL1] at HI2 HB2
      have HLV : Hid (∀ c, Lev C X L1 20 c) := hide (fun c => by
        by_cases hc : c < k + 1
        · exact HI2.out.lo c hc
        · have hnc : X.length ≤ 20 * c := by have := HN.out; have := HA.out; omega
          unfold Lev
          rw [HI2.out.up c (by omega), ch_none 20 c X hnc]
          exact ⟨by unfold Srt; exact List.Pairwise.nil, List.Perm.refl _⟩)
      have HL1 : Hid (L1.length = X.length) := hide HI2.out.len
      clear hL1 HSP HTL HI HB HG HI2 HLL HCH HTA
      go_wp2_with fail
      go_loopw [6] (fun bs wr => ∃ (s : Nat) (L : List Int), bs = .int .i64 s ∧ 0 < s ∧ s ≤ 2 * n + 20 ∧ Hid (L.length = X.length) ∧ Hid (∀ c, Lev C X L s c) ∧ Hid (IB wr g L tl) ∧ Hid (w.grownBy wr (some g))) (fun bs _ => 2 * n + 40 - (intOf bs).toNat)
      case atStart => exact ⟨20, L1, rfl, by omega, by omega, HL1, HLV, HB2, HG2⟩
      case round =>
        clear HB2 HG2 HLV HL1
        obtain ⟨s, L, rfl, hs, hsn, HLEN, HLV, HB, HG⟩ := hrel
        by_cases hlt : s < n
        · have e1 : decide (s < n) = true := by simpa using hlt
          have e1' : decide ((s : Int) < (n : Int)) = true := by simp; omega
          have HM0 : Hid (MrgL C X L s 0) := hide (MrgL.start HLEN.out HLV.out)
          have hsn2 : s < n := hlt
          clear hlt
          go_wp2_with fail
          obtain ⟨wo, hwo⟩ : ∃ wo : World, wo = wr := ⟨_, rfl⟩
          have HWO := hide hwo
          clear hwo
          go_loopw [7, 8] (fun a b wr => ∃ (A k : Nat) (L : List Int), a = .int .i64 A ∧ b = .int .i64 ((A : Int) + 2 * (s : Int)) ∧ A ≤ n ∧ Hid (A = s * (2 * k)) ∧ Hid (MrgL C X L s k) ∧ Hid (IB wr g L tl) ∧ Hid (w.grownBy wr (some g))) (fun a _ _ => n + 20 - (intOf a).toNat)
          case atStart => exact ⟨0, 0, L, rfl, by simp, by omega, hide (by simp), HM0, HB, HG⟩
          case round =>
            clear HM0 HLV HB HG HLEN
            obtain ⟨A, k, L, rfl, rfl, hAn, HA, HM, HB, HG⟩ := hrel
            have HLN : Hid (L.length = n) := hide (by rw [HM.out.len, HN.out])
            have HTW : Hid (L = L.take A ++ ch s (2 * k) L ++ ch s (2 * k + 1) L ++ L.drop (A + (ch s (2 * k) L ++ ch s (2 * k + 1) L).length)) := hide (by rw [HA.out]; exact ch_two s k L (by rw [← HA.out, HLN.out]; exact hAn))
            have HSP : Hid (IB wr g (L.take A ++ ch s (2 * k) L ++ ch s (2 * k + 1) L ++ L.drop (A + (ch s (2 * k) L ++ ch s (2 * k + 1) L).length)) tl) := hide (by rw [← HTW.out]; exact HB.out)
            have HTA : Hid ((L.take A).length = A) := hide (by rw [List.length_take, HLN.out]; omega)
            have HU1 := hide (HM.out.up (2 * k) (Nat.le_refl _))
            have HU2 := hide (HM.out.up (2 * k + 1) (by omega))
            have HSEP : Hid (Sep (ch s (2 * k) L) (ch s (2 * k + 1) L)) := hide ((ch_sep HX.out (show 2 * k < 2 * k + 1 by omega)).perm HU1.out.perm HU2.out.perm)
            have HINN : Hid (∀ u ∈ ch s (2 * k) L ++ ch s (2 * k + 1) L, 0 ≤ u ∧ u < n0) := hide (fun u hu => by
              rcases List.mem_append.1 hu with hu | hu
              · exact HIN.out u (ch_sub _ _ _ u (HU1.out.perm.mem_iff.1 hu))
              · exact HIN.out u (ch_sub _ _ _ u (HU2.out.perm.mem_iff.1 hu)))
            have HA2 : Hid (s * (2 * k + 1) = A + s) := hide (by rw [HA.out, Nat.mul_add, Nat.mul_one])
            have HA3 : Hid (A + 2 * s = s * (2 * (k + 1))) := hide (by rw [HA.out, Nat.mul_add 2 k 1, Nat.mul_add s, Nat.mul_one, Nat.mul_comm s 2])
            by_cases hlt : A + 2 * s ≤ n
            · have d1 : decide ((A : Int) + 2 * (s : Int) ≤ (n : Int)) = true := by simp; omega
              have HL1 : Hid ((ch s (2 * k) L).length = s) := hide (ch_first _ _ _ (by rw [← HA.out, HLN.out]; omega))
              have HL2 : Hid ((ch s (2 * k + 1) L).length = s) := hide (ch_first _ _ _ (by rw [HA2.out, HLN.out]; omega))
              have HSM := hide (sym_any HC.out HCM.out g c n tl hBg hn4 ((ch s (2 * k) L).length + (ch s (2 * k + 1) L).length) (L.take A) (ch s (2 * k) L) (ch s (2 * k + 1) L) (L.drop (A + (ch s (2 * k) L ++ ch s (2 * k + 1) L).length)) A ((A : Int) + (s : Int)) ((A : Int) + 2 * (s : Int)) wr (Nat.le_refl _) (low_gr HW.out HG.out hBg HGL.out) HSP.out HU1.out.srt HU2.out.srt HSEP.out HINN.out (by have h := congrArg List.length HTW.out; simp only [List.length_append] at h ⊢; rw [HLN.out] at h; exact h) (by rw [HL1.out]; omega) (by rw [HL2.out]; omega) (by rw [HTA.out]) (by rw [HTA.out, HL1.out]) (by rw [HTA.out, HL1.out, HL2.out]; omega))
              unfold fv at HSM
              go_wp2_with fail
              refine HSM.out.mono ?_
              intro e w2 hres
              unfold MrgP at hres
              obtain ⟨Z, hz1, hz2, rfl, hz3, hz4⟩ := hres
              have HM2 := hide (HM.out.step hs (by rw [← HA.out, ← HN.out]; exact hAn) hz1 hz2)
              have HZL : Hid (Z.length = (ch s (2 * k) L ++ ch s (2 * k + 1) L).length) := hide hz1.length_eq
              rw [← HA.out, HZL.out] at HM2
              have HB2 := hide hz3
              have HG2 := hide (gr_trans HG.out hz4)
              clear hz1 hz2 hz3 hz4 HSM
              go_wp2_with fail
              go_roundw
              case rel => exact ⟨A + 2 * s, k + 1, _, by rw [Int.natCast_add]; rfl, by rw [Int.natCast_add]; rfl, by omega, hide HA3.out, HM2, HB2, HG2⟩
              case measure => simp [intOf]; omega
            · have d1 : decide ((A : Int) + 2 * (s : Int) ≤ (n : Int)) = false := by simp; omega
              by_cases hm : A + s < n
              · have d2 : decide ((A : Int) + (s : Int) < (n : Int)) = true := by simp; omega
                have HL1 : Hid ((ch s (2 * k) L).length = s) := hide (ch_first _ _ _ (by rw [← HA.out, HLN.out]; omega))
                have HL2 : Hid ((ch s (2 * k + 1) L).length = n - (A + s)) := hide (by rw [ch_last _ _ _ (by rw [HA2.out, HLN.out]; omega), HA2.out, HLN.out])
                have HSM := hide (sym_any HC.out HCM.out g c n tl hBg hn4 ((ch s (2 * k) L).length + (ch s (2 * k + 1) L).length) (L.take A) (ch s (2 * k) L) (ch s (2 * k + 1) L) (L.drop (A + (ch s (2 * k) L ++ ch s (2 * k + 1) L).length)) A ((A : Int) + (s : Int)) n wr (Nat.le_refl _) (low_gr HW.out HG.out hBg HGL.out) HSP.out HU1.out.srt HU2.out.srt HSEP.out HINN.out (by have h := congrArg List.length HTW.out; simp only [List.length_append] at h ⊢; rw [HLN.out] at h; exact h) (by rw [HL1.out]; omega) (by rw [HL2.out]; omega) (by rw [HTA.out]) (by rw [HTA.out, HL1.out]) (by rw [HTA.out, HL1.out, HL2.out]; omega))
                unfold fv at HSM
                go_wp2_with fail
                refine HSM.out.mono ?_
                intro e w2 hres
                unfold MrgP at hres
                obtain ⟨Z, hz1, hz2, rfl, hz3, hz4⟩ := hres
                have HM2 := hide (HM.out.step hs (by rw [← HA.out, ← HN.out]; exact hAn) hz1 hz2)
                have HZL : Hid (Z.length = (ch s (2 * k) L ++ ch s (2 * k + 1) L).length) := hide hz1.length_eq
                rw [← HA.out, HZL.out] at HM2
                have HB2 := hide hz3
                have HG2 := hide (gr_trans HG.out hz4)
                have HLV2 := hide (HM2.out.done (by rw [← HA3.out, ← HN.out]; omega))
                have HLE2 := hide HM2.out.len
                clear hz1 hz2 hz3 hz4 HSM
                go_wp2_with fail
                go_roundw
                case rel => exact ⟨2 * s, _, by rw [Int.natCast_mul, Int.mul_comm]; rfl, by omega, by omega, HLE2, HLV2, HB2, HG2⟩
                case measure => simp [intOf]; omega
              · have d2 : decide ((A : Int) + (s : Int) < (n : Int)) = false := by simp; omega
                have HLV2 := hide (HM.out.done (by rw [← HA.out, ← HN.out]; omega))
                have HLE2 := hide HM.out.len
                go_wp2_with fail
                go_roundw
                case rel => exact ⟨2 * s, L, by rw [Int.natCast_mul, Int.mul_comm]; rfl, by omega, by omega, HLE2, HLV2, HB, HG⟩
                case measure => simp [intOf]; omega
        · have e1 : decide (s < n) = false := by simpa using hlt
          have e1' : decide ((s : Int) < (n : Int)) = false := by simp; omega
          have HFIN : Hid (L.Perm X ∧ Srt C L) := hide (by
            have h := HLV.out 0
            unfold Lev at h
            rw [ch_all s L (by rw [HLEN.out, ← HN.out]; omega), ch_all s X (by rw [← HN.out]; omega)] at h
            exact ⟨h.2, h.1⟩)
          go_wp2_with fail
          go_end0
          exact ⟨L, HFIN.out.1, HFIN.out.2, rfl, by simpa using HB.out, HG.out⟩
end Go.Proofs.YtndiionpijjdbaaDoor.Stab
