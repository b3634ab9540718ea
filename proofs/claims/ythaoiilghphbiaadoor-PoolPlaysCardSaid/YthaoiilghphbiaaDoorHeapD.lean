/- The walks of container/heap's down and up over a pool's entries. -/
import Derived.Test.YthaoiilghphbiaaDoorHeapW
set_option linter.unusedVariables false
namespace Go.Proofs.YthaoiilghphbiaaDoor.HeapW
open Go.RowKit HeapP

/-- The list of the pool at g lies in block ge. -/
def LB (w : World) (g ge cap : Nat) (l : List (Int × Int)) : Prop := w.cell? ⟨g, 3, none⟩ = some (.slice (some ⟨ge, 0, none⟩) l.length cap) ∧ g ≠ ge ∧ g < w.heap.size ∧ EB w ge cap l
theorem LB.below {w w' : World} {g ge cap : Nat} {l : List (Int × Int)} (h : LB w g ge cap l) (hb : Below w.heap.size w w') : LB w' g ge cap l :=
  ⟨(hb.cell h.2.2.1).trans h.1, h.2.1, Nat.lt_of_lt_of_le h.2.2.1 hb.size, h.2.2.2.block (hb.block ge h.2.2.2.lt_)⟩
theorem LB.grown {w w' : World} {g ge cap : Nat} {l l' : List (Int × Int)} (h : LB w g ge cap l) (hg : w.grownBy w' (some ge)) (he : EB w' ge cap l') (hl : l'.length = l.length) : LB w' g ge cap l' :=
  ⟨by rw [hl]; exact (World.cell?_of_block (w := w) (hg.block g h.2.2.1 (fun e => h.2.1 (by injection e)))).trans h.1, h.2.1, Nat.lt_of_lt_of_le h.2.2.1 hg.size, he⟩

def Moved (w : World) (g ge cap n : Nat) (l : List (Int × Int)) (w' : World) (l' : List (Int × Int)) : Prop :=
  LB w' g ge cap l' ∧ l'.Perm l ∧ l'.length = l.length ∧ (∀ q, n ≤ q → el l' q = el l q) ∧ w.grownBy w' (some ge)
theorem Moved.below {w w1 w' : World} {g ge cap n : Nat} {l l' : List (Int × Int)} (h : Moved w g ge cap n l w1 l') (hb : Below w1.heap.size w1 w') : Moved w g ge cap n l w' l' :=
  ⟨h.1.below hb, h.2.1, h.2.2.1, h.2.2.2.1, grown_trans h.2.2.2.2 (grown_below hb)⟩
theorem Moved.swap {w w1 w' : World} {g ge cap n i j : Nat} {l l' : List (Int × Int)} (h : Moved w g ge cap n l w1 l') (he : EB w' ge cap (swp l' i j)) (hg : w1.grownBy w' (some ge)) (hi : i < n) (hj : j < n) (hn : n ≤ l.length) : Moved w g ge cap n l w' (swp l' i j) := by
  have hl := h.2.2.1
  refine ⟨h.1.grown hg he (swp_length _ _ _), (swp_perm _ _ _ (by omega) (by omega)).trans h.2.1, (swp_length _ _ _).trans hl, fun q hq => ?_, grown_trans h.2.2.2.2 hg⟩
  rw [el_swp _ _ _ _ (by omega) (by omega), if_neg (by omega), if_neg (by omega)]
  exact h.2.2.2.1 q hq

theorem least_two {l : List (Int × Int)} {n k : Nat} (h : 2 * k + 2 < n) (hlt : lt (el l (2 * k + 2)) (el l (2 * k + 1))) : Least l n k (2 * k + 2) :=
  ⟨.inr rfl, h, fun q _ hq => by rcases hq with rfl | rfl; exact lt_asymm hlt; exact lt_irrefl _⟩
theorem least_one {l : List (Int × Int)} {n k : Nat} (h : 2 * k + 1 < n) (hlt : 2 * k + 2 < n → ¬ lt (el l (2 * k + 2)) (el l (2 * k + 1))) : Least l n k (2 * k + 1) :=
  ⟨.inl rfl, h, fun q hq hq2 => by rcases hq2 with rfl | rfl; exact lt_irrefl _; exact hlt hq⟩

theorem less_i {w : World} {g ge cap : Nat} {l : List (Int × Int)} (h : LB w g ge cap l) (i' j' : Nat) (i j : Int) (ei : i = i') (ej : j = j') (hi : i' < l.length) (hj : j' < l.length) (hl : l.length ≤ 4096) (r : Bool) (hr : r = decide (lt (el l i') (el l j'))) :
    Calls Tryd.prog 75 #[.slice (some ⟨ge, 0, none⟩) l.length cap, .int .i64 i, .int .i64 j] w fun e w' => e = .returned (.bool r) ∧ Below w.heap.size w w' := by
  subst ei ej
  exact less_any ge cap i' j' l w h.2.2.2 hi hj hl r hr
theorem swap_i {w : World} {g ge cap : Nat} {l : List (Int × Int)} (h : LB w g ge cap l) (i' j' : Nat) (i j : Int) (ei : i = i') (ej : j = j') (hi : i' < l.length) (hj : j' < l.length) (hl : l.length ≤ 4096) :
    Calls Tryd.prog 76 #[.slice (some ⟨ge, 0, none⟩) l.length cap, .int .i64 i, .int .i64 j] w fun e w' => e = .returned (.tuple #[]) ∧ EB w' ge cap (swp l i' j') ∧ w.grownBy w' (some ge) := by
  subst ei ej
  exact swap_any ge cap i' j' l w h.2.2.2 hi hj hl

attribute [local irreducible] swp el lt EB Hp DInv UInv

set_option maxRecDepth 100000 in
set_option maxHeartbeats 4000000 in
theorem down_any (g ge cap s n : Nat) (l : List (Int × Int)) (w : World) (h : LB w g ge cap l) (hn : n ≤ l.length) (hl : l.length ≤ 4096) (hd : DInv l n s s) (hs : s ≤ 4096) :
    Calls Tryd.prog 46 #[.iface 79 (.pointer (some ⟨g, 3, none⟩)), .int .i64 s, .int .i64 n] w fun e w' => ∃ b l', e = .returned (.bool b) ∧ Moved w g ge cap n l w' l' ∧ Hp l' n s := by
  have hM : Moved w g ge cap n l w l := ⟨h, List.Perm.refl _, rfl, fun _ _ => rfl, World.grownBy.refl _ _⟩
  clear h
  go_enter Tryd.func46, Tryd.ntmps46
  go_wp2_with fail
  go_loopw [7] (fun i wr => ∃ (k : Nat) (l' : List (Int × Int)), i = .int .i64 k ∧ k ≤ 4096 ∧ s ≤ k ∧ Hid (DInv l' n s k) ∧ Hid (Moved w g ge cap n l wr l')) (fun i _ => 5000 - (intOf i).toNat)
  case atStart => exact ⟨s, l, rfl, hs, Nat.le_refl _, hide hd, hide hM⟩
  case round =>
    clear hM hd
    obtain ⟨k, l', rfl, hk, hsk, HD, HM⟩ := hrel
    have hlen := HM.out.2.2.1
    have hll : l'.length ≤ 4096 := by omega
    have hnl : n ≤ l'.length := by omega
    clear hlen
    by_cases hlt : 2 * k + 1 < n
    · have n1 := nil_less ⟨g, 3, none⟩ wr
      have m1 := method_less _ wr _ _ _ HM.out.1.1
      have hlt' : 2 * (k : Int) + 1 < (n : Int) := by omega
      by_cases h2 : 2 * k + 2 < n
      · have h2' : 2 * (k : Int) + 1 + 1 < (n : Int) := by omega
        by_cases hc : lt (el l' (2 * k + 2)) (el l' (2 * k + 1))
        · have HL := hide (least_two h2 hc)
          have HC := hide hc
          clear hc
          go_wp2_with fail
          refine (less_i HM.out.1 (2 * k + 2) (2 * k + 1) _ _ (by omega) (by omega) (by omega) (by omega) hll true (decide_eq_true HC.out).symm).mono ?_
          rintro e w1 ⟨rfl, hb1⟩
          have HM1 := hide (HM.out.below hb1)
          clear hb1 HM n1 m1
          have n2 := nil_less ⟨g, 3, none⟩ w1
          have m2 := method_less _ w1 _ _ _ HM1.out.1.1
          by_cases hlt2 : lt (el l' (2 * k + 2)) (el l' k)
          · have HT := hide hlt2
            have HD3 := hide (dinv_step HD.out HL.out hlt2 hnl)
            clear hlt2
            go_wp2_with fail
            refine (less_i HM1.out.1 (2 * k + 2) k _ _ (by omega) (by omega) (by omega) (by omega) hll true (decide_eq_true HT.out).symm).mono ?_
            rintro e w2 ⟨rfl, hb2⟩
            have HM2 := hide (HM1.out.below hb2)
            have n3 := nil_swap ⟨g, 3, none⟩ w2
            have m3 := method_swap _ w2 _ _ _ HM2.out.1.1
            clear n2 m2 hb2 HM1
            go_wp2_with fail
            refine (swap_i HM2.out.1 k (2 * k + 2) _ _ (by omega) (by omega) (by omega) (by omega) hll).mono ?_
            rintro e w3 ⟨rfl, he, hg⟩
            have HM3 := hide (HM2.out.swap he hg (by omega) (by omega) hn)
            clear he hg n3 m3
            go_wp2_with fail
            go_roundw
            case rel => exact ⟨(2 * k + 2), _, by go_num, by omega, by omega, HD3, HM3⟩
            case measure => simp [intOf]; omega
          · have HT := hide hlt2
            have HP := hide (dinv_stop HD.out HL.out hlt2)
            clear hlt2
            go_wp2_with fail
            refine (less_i HM1.out.1 (2 * k + 2) k _ _ (by omega) (by omega) (by omega) (by omega) hll false (decide_eq_false HT.out).symm).mono ?_
            rintro e w2 ⟨rfl, hb2⟩
            have HM2 := hide (HM1.out.below hb2)
            clear n2 m2 hb2 HM1
            go_wp2_with fail
            go_ret
            exact ⟨_, l', rfl, HM2.out, HP.out⟩
        · have HL := hide (least_one hlt fun _ => hc)
          have HC := hide hc
          clear hc
          go_wp2_with fail
          refine (less_i HM.out.1 (2 * k + 2) (2 * k + 1) _ _ (by omega) (by omega) (by omega) (by omega) hll false (decide_eq_false HC.out).symm).mono ?_
          rintro e w1 ⟨rfl, hb1⟩
          have HM1 := hide (HM.out.below hb1)
          clear hb1 HM n1 m1
          have n2 := nil_less ⟨g, 3, none⟩ w1
          have m2 := method_less _ w1 _ _ _ HM1.out.1.1
          by_cases hlt2 : lt (el l' (2 * k + 1)) (el l' k)
          · have HT := hide hlt2
            have HD3 := hide (dinv_step HD.out HL.out hlt2 hnl)
            clear hlt2
            go_wp2_with fail
            refine (less_i HM1.out.1 (2 * k + 1) k _ _ (by omega) (by omega) (by omega) (by omega) hll true (decide_eq_true HT.out).symm).mono ?_
            rintro e w2 ⟨rfl, hb2⟩
            have HM2 := hide (HM1.out.below hb2)
            have n3 := nil_swap ⟨g, 3, none⟩ w2
            have m3 := method_swap _ w2 _ _ _ HM2.out.1.1
            clear n2 m2 hb2 HM1
            go_wp2_with fail
            refine (swap_i HM2.out.1 k (2 * k + 1) _ _ (by omega) (by omega) (by omega) (by omega) hll).mono ?_
            rintro e w3 ⟨rfl, he, hg⟩
            have HM3 := hide (HM2.out.swap he hg (by omega) (by omega) hn)
            clear he hg n3 m3
            go_wp2_with fail
            go_roundw
            case rel => exact ⟨(2 * k + 1), _, by go_num, by omega, by omega, HD3, HM3⟩
            case measure => simp [intOf]; omega
          · have HT := hide hlt2
            have HP := hide (dinv_stop HD.out HL.out hlt2)
            clear hlt2
            go_wp2_with fail
            refine (less_i HM1.out.1 (2 * k + 1) k _ _ (by omega) (by omega) (by omega) (by omega) hll false (decide_eq_false HT.out).symm).mono ?_
            rintro e w2 ⟨rfl, hb2⟩
            have HM2 := hide (HM1.out.below hb2)
            clear n2 m2 hb2 HM1
            go_wp2_with fail
            go_ret
            exact ⟨_, l', rfl, HM2.out, HP.out⟩
      · have h2' : ¬ 2 * (k : Int) + 1 + 1 < (n : Int) := by omega
        have HL := hide (least_one (l := l') hlt fun h => absurd h h2)
        obtain ⟨w1, hw1⟩ : ∃ w1, w1 = wr := ⟨_, rfl⟩
        subst hw1
        have HM1 := HM
        clear HM n1 m1
        have n2 := nil_less ⟨g, 3, none⟩ w1
        have m2 := method_less _ w1 _ _ _ HM1.out.1.1
        by_cases hlt2 : lt (el l' (2 * k + 1)) (el l' k)
        · have HT := hide hlt2
          have HD3 := hide (dinv_step HD.out HL.out hlt2 hnl)
          clear hlt2
          go_wp2_with fail
          refine (less_i HM1.out.1 (2 * k + 1) k _ _ (by omega) (by omega) (by omega) (by omega) hll true (decide_eq_true HT.out).symm).mono ?_
          rintro e w2 ⟨rfl, hb2⟩
          have HM2 := hide (HM1.out.below hb2)
          have n3 := nil_swap ⟨g, 3, none⟩ w2
          have m3 := method_swap _ w2 _ _ _ HM2.out.1.1
          clear n2 m2 hb2 HM1
          go_wp2_with fail
          refine (swap_i HM2.out.1 k (2 * k + 1) _ _ (by omega) (by omega) (by omega) (by omega) hll).mono ?_
          rintro e w3 ⟨rfl, he, hg⟩
          have HM3 := hide (HM2.out.swap he hg (by omega) (by omega) hn)
          clear he hg n3 m3
          go_wp2_with fail
          go_roundw
          case rel => exact ⟨(2 * k + 1), _, by go_num, by omega, by omega, HD3, HM3⟩
          case measure => simp [intOf]; omega
        · have HT := hide hlt2
          have HP := hide (dinv_stop HD.out HL.out hlt2)
          clear hlt2
          go_wp2_with fail
          refine (less_i HM1.out.1 (2 * k + 1) k _ _ (by omega) (by omega) (by omega) (by omega) hll false (decide_eq_false HT.out).symm).mono ?_
          rintro e w2 ⟨rfl, hb2⟩
          have HM2 := hide (HM1.out.below hb2)
          clear n2 m2 hb2 HM1
          go_wp2_with fail
          go_ret
          exact ⟨_, l', rfl, HM2.out, HP.out⟩
    · have hlt' : ¬ 2 * (k : Int) + 1 < (n : Int) := by omega
      have HP := hide (dinv_leaf HD.out (by omega))
      go_wp2_with fail
      go_ret
      refine ⟨?_, l', HM.out, HP.out⟩
      show Ending.returned (.bool (decide (s < k))) = _ ∨ Ending.returned (.bool (decide (s < k))) = _
      cases decide (s < k) <;> simp

set_option maxRecDepth 100000 in
set_option maxHeartbeats 4000000 in
theorem up_any (g ge cap j : Nat) (l : List (Int × Int)) (w : World) (h : LB w g ge cap l) (hj : j < l.length) (hl : l.length ≤ 4096) (hd : UInv l j) :
    Calls Tryd.prog 47 #[.iface 79 (.pointer (some ⟨g, 3, none⟩)), .int .i64 j] w fun e w' => ∃ l', e = .returned (.tuple #[]) ∧ Moved w g ge cap l.length l w' l' ∧ Hp l' l'.length 0 := by
  have hM : Moved w g ge cap l.length l w l := ⟨h, List.Perm.refl _, rfl, fun _ _ => rfl, World.grownBy.refl _ _⟩
  clear h
  go_enter Tryd.func47, Tryd.ntmps47
  go_wp2_with fail
  go_loopw [1] (fun i wr => ∃ (k : Nat) (l' : List (Int × Int)), i = .int .i64 k ∧ k < l.length ∧ Hid (UInv l' k) ∧ Hid (Moved w g ge cap l.length l wr l')) (fun i _ => (intOf i).toNat)
  case atStart => exact ⟨j, l, rfl, hj, hide hd, hide hM⟩
  case round =>
    clear hM hd
    obtain ⟨k, l', rfl, hk, HD, HM⟩ := hrel
    have hlen := HM.out.2.2.1
    have hll : l'.length ≤ 4096 := by omega
    have hkl : k < l'.length := by omega
    clear hlen
    by_cases h0 : k = 0
    · subst h0
      have HP := hide (uinv_stop HD.out (.inl rfl))
      go_wp2_with fail
      go_end0
      exact ⟨l', rfl, HM.out, HP.out⟩
    · have hq : ((k : Int) - 1).tdiv 2 = (((k - 1) / 2 : Nat) : Int) := by
        rw [Int.tdiv_eq_ediv_of_nonneg (by omega)]; omega
      have hdv : (((k : Int) - 1) / 2) = (((k - 1) / 2 : Nat) : Int) := by omega
      have he : ((((k - 1) / 2 : Nat) : Int) == (k : Int)) = false := by simp; omega
      obtain ⟨p, hp⟩ : ∃ p, p = (k - 1) / 2 := ⟨_, rfl⟩
      have hpk : p < k := by omega
      have HPP := hide hp
      rw [← hp] at hq hdv he
      clear hp
      have n1 := nil_less ⟨g, 3, none⟩ wr
      have m1 := method_less _ wr _ _ _ HM.out.1.1
      by_cases hlt : lt (el l' k) (el l' p)
      · have HT := hide hlt
        have HD3 : Hid (UInv (swp l' p k) p) := hide (by rw [HPP.out] at hlt ⊢; exact uinv_step HD.out (by omega) hkl hlt)
        clear hlt
        go_wp2_with fail
        refine (less_i HM.out.1 k p _ _ (by omega) (by omega) (by omega) (by omega) hll true (decide_eq_true HT.out).symm).mono ?_
        rintro e w2 ⟨rfl, hb2⟩
        have HM2 := hide (HM.out.below hb2)
        have n3 := nil_swap ⟨g, 3, none⟩ w2
        have m3 := method_swap _ w2 _ _ _ HM2.out.1.1
        clear n1 m1 hb2 HM
        go_wp2_with fail
        refine (swap_i HM2.out.1 p k _ _ (by omega) (by omega) (by omega) (by omega) hll).mono ?_
        rintro e w3 ⟨rfl, he3, hg3⟩
        have HM3 := hide (HM2.out.swap he3 hg3 (by omega) (by omega) (Nat.le_refl _))
        clear he3 hg3 n3 m3
        go_wp2_with fail
        go_roundw
        case rel => exact ⟨p, _, by go_num, by omega, HD3, HM3⟩
        case measure => simp [intOf]; omega
      · have HT := hide hlt
        have HP : Hid (Hp l' l'.length 0) := hide (uinv_stop HD.out (.inr (by rw [← HPP.out]; exact hlt)))
        clear hlt
        go_wp2_with fail
        refine (less_i HM.out.1 k p _ _ (by omega) (by omega) (by omega) (by omega) hll false (decide_eq_false HT.out).symm).mono ?_
        rintro e w2 ⟨rfl, hb2⟩
        have HM2 := hide (HM.out.below hb2)
        clear n1 m1 hb2 HM
        go_wp2_with fail
        go_end0
        exact ⟨l', rfl, HM2.out, HP.out⟩

theorem init_any (g ge cap : Nat) (l : List (Int × Int)) (w : World) (h : LB w g ge cap l) (hl : l.length ≤ 4096) :
    Calls Tryd.prog 41 #[.iface 79 (.pointer (some ⟨g, 3, none⟩))] w fun e w' => ∃ l', e = .returned (.tuple #[]) ∧ Moved w g ge cap l.length l w' l' ∧ Hp l' l'.length 0 := by
  have hM : Moved w g ge cap l.length l w l := ⟨h, List.Perm.refl _, rfl, fun _ _ => rfl, World.grownBy.refl _ _⟩
  have n1 := nil_len ⟨g, 3, none⟩ w
  have m1 := method_len _ w _ _ _ h.1
  have hdv : ((l.length : Int).tdiv 2) = ((l.length / 2 : Nat) : Int) := by
    rw [Int.tdiv_eq_ediv_of_nonneg (by omega)]; omega
  have hdv2 : ((l.length : Int) / 2) = ((l.length / 2 : Nat) : Int) := by omega
  obtain ⟨q, hq⟩ : ∃ q, q = l.length / 2 := ⟨_, rfl⟩
  rw [← hq] at hdv hdv2
  have HQ := hide hq
  have hql : q ≤ 4096 := by omega
  clear h hq
  go_enter Tryd.func41, Tryd.ntmps41
  go_wp2_with fail
  refine (len_any _ _ _ _).mono ?_
  rintro e w1 ⟨rfl, rfl⟩
  clear n1 m1
  go_wp2_with fail
  go_loopw [3] (fun i wr => ∃ (k : Nat) (l' : List (Int × Int)), i = .int .i64 ((k : Int) - 1) ∧ k ≤ q ∧ Hid (Hp l' l.length k) ∧ Hid (Moved w g ge cap l.length l wr l')) (fun i _ => (intOf i + 1).toNat)
  case atStart => exact ⟨q, l, by go_num, by omega, hide (hp_big (by have := HQ.out; omega)), hide hM⟩
  case round =>
    clear hM
    obtain ⟨k, l', rfl, hk, HH, HM⟩ := hrel
    by_cases h0 : k = 0
    · subst h0
      have HP : Hid (Hp l' l'.length 0) := hide (by rw [HM.out.2.2.1]; exact HH.out)
      go_wp2_with fail
      go_end0
      exact ⟨l', rfl, HM.out, HP.out⟩
    · obtain ⟨s, rfl⟩ : ∃ s, k = s + 1 := ⟨k - 1, by omega⟩
      have es : (((s + 1 : Nat) : Int) - 1) = (s : Int) := by omega
      rw [es]
      have HL := hide HM.out.2.2.1
      go_wp2_with fail
      refine (down_any g ge cap s l.length l' _ HM.out.1 (Nat.le_of_eq HL.out.symm) (by rw [HL.out]; exact hl) (dinv_start HH.out) (by omega)).mono ?_
      rintro e w2 ⟨b, l2, rfl, hm2, hp2⟩
      have HM2 : Hid (Moved w g ge cap l.length l w2 l2) := hide ⟨hm2.1, hm2.2.1.trans HM.out.2.1, hm2.2.2.1.trans HL.out, fun q hq => (hm2.2.2.2.1 q hq).trans (HM.out.2.2.2.1 q hq), grown_trans HM.out.2.2.2.2 hm2.2.2.2.2⟩
      have HP2 := hide hp2
      clear hm2 hp2
      go_wp2_with fail
      go_roundw
      case rel => exact ⟨s, l2, by go_num, by omega, HP2, HM2⟩
      case measure => simp [intOf]
end Go.Proofs.YthaoiilghphbiaaDoor.HeapW
