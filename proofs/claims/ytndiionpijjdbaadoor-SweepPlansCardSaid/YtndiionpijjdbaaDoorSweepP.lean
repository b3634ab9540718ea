/- The walk of sweep.Plan. -/
import Derived.Test.YtndiionpijjdbaaDoorSweepF

set_option linter.unusedVariables false
namespace Go.Proofs.YtndiionpijjdbaaDoor.SwW
open Go.RowKit I64 Stab

/-- What the first k of Z win. -/
def wonF (S : Nat → Blk) (pages : Int) (Z : List Int) : Nat → Int
  | 0 => 0
  | k + 1 => wonF S pages Z k + (pages - (S (Z.getD k 0).toNat).lv)
theorem wonF_bound (S : Nat → Blk) (pages : Int) (Z : List Int) (hp : pages ≤ 4096) (k : Nat) (h : ∀ j, j < k → 0 ≤ (S (Z.getD j 0).toNat).lv ∧ (S (Z.getD j 0).toNat).lv ≤ pages) : 0 ≤ wonF S pages Z k ∧ wonF S pages Z k ≤ 4096 * k := by
  induction k with
  | zero => exact ⟨by show (0 : Int) ≤ 0; omega, by show (0 : Int) ≤ _; omega⟩
  | succ k ih =>
    have h1 := ih (fun j hj => h j (by omega))
    have h2 := h k (by omega)
    unfold wonF
    omega
/-- What Plan says. -/
def PlaP (w : World) (S : Nat → Blk) (pages need : Int) (n : Nat) (e : Ending) (w' : World) : Prop :=
  Below w.heap.size w w' ∧ ((flt S n pages (decide (need < 0)) ≠ 0 ∧ e = .returned (.tuple #[.slice none 0 0, errR (flt S n pages (decide (need < 0)))])) ∨
    (flt S n pages (decide (need < 0)) = 0 ∧ ∃ Z : List Int, Z.Perm (elig S pages n) ∧ Srt (ckey S) Z ∧
      (((∀ j, j ≤ Z.length → wonF S pages Z j < need) ∧ e = .returned (.tuple #[.slice none 0 0, errR 4])) ∨
       (∃ (k : Nat) (A' : Option Addr) (c' : Nat), k ≤ Z.length ∧ need ≤ wonF S pages Z k ∧ (∀ j, j < k → wonF S pages Z j < need) ∧ k ≤ c' ∧ Rd w' A' (i64v (Z.take k)) ∧ e = .returned (.tuple #[.slice A' k c', .nilIface])))))
attribute [local irreducible] flt okB elig Srt ckey wonF
set_option maxRecDepth 20000 in
set_option maxHeartbeats 4000000 in
theorem plan_any (A : Option Addr) (n c : Nat) (S : Nat → Blk) (T : Nat) (pages need : Int) (w : World) (hr : RdB w A n S T) (hT : T ≤ w.heap.size) (hn : n ≤ 9223372036854775807) :
    Calls Tryd.prog 6 #[.slice A n c, .int .i64 pages, .int .i64 need] w (PlaP w S pages need n) := by
  have HFA := hide (fault_any A n c S T pages (decide (need < 0)) w hr hT hn)
  have HR := hide hr
  have HT := hide hT
  clear hr hT
  go_enter Tryd.func6, Tryd.ntmps6
  go_wp2_with fail
  refine HFA.out.mono ?_
  rintro e w1 ⟨rfl, hb1⟩
  by_cases hf : flt S n pages (decide (need < 0)) = 0
  · have HF := hide hf
    have HZ := hide (flt_zero hf)
    have HOR := hide (order_any A n c S T pages w1 (HR.out.below hb1 HT.out) (Nat.le_trans HT.out hb1.size) HZ.out.1)
    have HB1 := hide hb1
    rw [hf, errV_zero]
    clear hf hb1 HFA
    go_wp2_with fail
    refine HOR.out.mono ?_
    rintro e w2 ⟨Z, D, c', rfl, hrd, hc1, hc2, hz1, hz2, hb2⟩
    have HB2 := hide (HB1.out.trans (hb2.mono HB1.out.size))
    have HZ1 := hide hz1
    have HZ2 := hide hz2
    have HRD := hide hrd
    have HC := hide (And.intro hc1 hc2)
    clear hrd hc1 hc2 hz1 hz2 hb2
    have HMEM : Hid (∀ j, j < Z.length → ∃ i : Nat, Z.getD j 0 = i ∧ i < n) := hide (fun j hj => by
      obtain ⟨i, h1, h2, -⟩ := elig_mem.1 (HZ1.out.mem_iff.1 (getD_mem Z j hj))
      exact ⟨i, h1, h2⟩)
    have HR2 := hide (HR.out.below HB2.out HT.out)
    have HW0 : Hid (wonF S pages Z 0 = 0) := hide (by unfold wonF; rfl)
    obtain ⟨L, hL⟩ : ∃ L, L = Z.length := ⟨_, rfl⟩
    have HL := hide hL
    have HL64 : Hid (L ≤ 64) := hide (by rw [hL, HZ1.out.length_eq]; exact Nat.le_trans (elig_len S pages n) HZ.out.1)
    rw [← hL]
    clear hL
    go_wp2_with fail
    go_loopw [10, 26] (fun wo i wr => ∃ k : Nat, i = .int .i64 k ∧ k ≤ L ∧ wo = .int .i64 (wonF S pages Z k) ∧ wr = w2 ∧ Hid (∀ j, j < k → wonF S pages Z j < need)) (fun _ i _ => L - (intOf i).toNat)
    case atStart => exact ⟨0, rfl, by omega, by rw [HW0.out], rfl, hide (fun j hj => absurd hj (Nat.not_lt_zero j))⟩
    case round =>
      obtain ⟨k, rfl, hk, rfl, rfl, HK⟩ := hrel
      have HBND : Hid (∀ k, k ≤ L → 0 ≤ wonF S pages Z k ∧ wonF S pages Z k ≤ 4096 * k) := hide (fun k hk => wonF_bound S pages Z HZ.out.2.2.1 k (fun j hj => by
        obtain ⟨i, h1, h2⟩ := HMEM.out j (by rw [← HL.out]; omega)
        have h3 := HZ.out.2.2.2.2 i h2
        rw [h1, Int.toNat_natCast]
        unfold okB at h3
        exact ⟨h3.1, h3.2.1⟩))
      have hbw := HBND.out k hk
      by_cases hlt : k < L
      · have e1 : decide (k < L) = true := by simpa using hlt
        have e1' : decide ((k : Int) < (L : Int)) = true := by simp; omega
        have hkL : (k : Int) < (L : Int) := by omega
        have hl64 := HL64.out
        obtain ⟨i, hi1, hi2⟩ := HMEM.out k (by rw [← HL.out]; exact hlt)
        obtain ⟨bz, oz, rfl, hcz⟩ := HRD.out.at_ (i := k) (by rw [i64v_length, ← HL.out]; exact hlt)
        have cz : wr.cell? ⟨bz, oz + k, none⟩ = some (.int .i64 (i : Int)) := by
          have hkz : k < Z.length := by rw [← HL.out]; exact hlt
          rw [hcz]
          simp only [i64v, List.getElem_map]
          rw [← hi1]
          simp [List.getD_eq_getElem?_getD, hkz]
        obtain ⟨b, off, rfl, hbT, z0, z1, z2⟩ := HR2.out i hi2
        have hok := HZ.out.2.2.2.2 i hi2
        unfold okB at hok
        have hpg := HZ.out.2.2.1
        have HWS : Hid (wonF S pages Z (k + 1) = wonF S pages Z k + (pages - (S i).lv)) := hide (by conv => lhs; unfold wonF; rw [hi1, Int.toNat_natCast])
        obtain ⟨lv, hlv⟩ : ∃ lv, lv = (S i).lv := ⟨_, rfl⟩
        rw [← hlv] at z1 HWS
        have hlb : 0 ≤ lv ∧ lv ≤ pages := by rw [hlv]; exact ⟨hok.1, hok.2.1⟩
        obtain ⟨wo, hwo⟩ : ∃ wo, wo = wonF S pages Z k := ⟨_, rfl⟩
        have HWO := hide hwo
        rw [← hwo] at hbw HWS ⊢
        have hin : (i : Int) < (n : Int) := by omega
        clear hi1 hcz hok hlv hwo
        by_cases hw : need ≤ wo
        · have d1 : decide (wo ≥ need) = true := decide_eq_true hw
          have d1' : decide (need ≤ wo) = true := decide_eq_true hw
          have hcL : L ≤ c' := by rw [HL.out]; exact HC.out.1
          have hcM : c' ≤ 9223372036854775807 := HC.out.2
          have s1 : (k : Int) ≤ (c' : Int) := by omega
          have s2 : (0 : Int) ≤ (k : Int) := by omega
          have HNW : Hid (need ≤ wonF S pages Z k) := hide (by rw [← HWO.out]; exact hw)
          clear hw
          have HRT : Hid (Rd wr (some ⟨bz, oz, none⟩) (i64v (Z.take k))) := hide (by have h := HRD.out.take k; simpa [i64v] using h)
          go_wp2_with fail
          go_ret2
          exact ⟨HB2.out, .inr ⟨HF.out, Z, HZ1.out, HZ2.out, .inr ⟨k, _, k, by rw [← HL.out]; omega, HNW.out, HK.out, Nat.le_refl _, HRT.out, rfl⟩⟩⟩
        · have d1 : decide (wo ≥ need) = false := decide_eq_false hw
          have d1' : decide (need ≤ wo) = false := decide_eq_false hw
          have HK2 : Hid (∀ j, j < k + 1 → wonF S pages Z j < need) := hide (fun j hj => by
            rcases Nat.lt_or_ge j k with h | h
            · exact HK.out j h
            · rw [show j = k from by omega, ← HWO.out]; omega)
          clear hw
          go_wp2_with fail
          go_roundw
          case rel => exact ⟨k + 1, by go_num, by omega, by rw [HWS.out], trivial, HK2⟩
          case measure => simp [intOf]; omega
      · obtain rfl : k = L := by omega
        have e1 : decide (k < k) = false := by simp
        have e1' : decide ((k : Int) < (k : Int)) = false := by simp
        obtain ⟨wo, hwo⟩ : ∃ wo, wo = wonF S pages Z k := ⟨_, rfl⟩
        have HWO := hide hwo
        rw [← hwo]
        clear hwo hbw
        by_cases hw : wo < need
        · have d1 : decide (wo < need) = true := decide_eq_true hw
          have HALL : Hid (∀ j, j ≤ Z.length → wonF S pages Z j < need) := hide (fun j hj => by
            rcases Nat.lt_or_ge j k with h | h
            · exact HK.out j h
            · rw [show j = k from by rw [← HL.out] at hj; omega, ← HWO.out]; exact hw)
          clear hw
          go_wp2_with fail
          go_ret2
          exact ⟨HB2.out, .inr ⟨HF.out, Z, HZ1.out, HZ2.out, .inl ⟨HALL.out, rfl⟩⟩⟩
        · have d1 : decide (wo < need) = false := decide_eq_false hw
          have HNW : Hid (need ≤ wonF S pages Z k) := hide (by rw [← HWO.out]; omega)
          have HRT : Hid (Rd wr D (i64v (Z.take k))) := hide (by rw [List.take_of_length_le (by rw [← HL.out]; exact Nat.le_refl _)]; exact HRD.out)
          clear hw
          go_wp2_with fail
          go_ret2
          exact ⟨HB2.out, .inr ⟨HF.out, Z, HZ1.out, HZ2.out, .inr ⟨k, D, c', by rw [← HL.out]; exact Nat.le_refl _, HNW.out, HK.out, by rw [HL.out]; exact HC.out.1, HRT.out, rfl⟩⟩⟩
  · have HF := hide hf
    have HB1 := hide hb1
    rw [errV_ne hf]
    clear hf hb1 HFA
    unfold errR
    go_wp2_with fail
    go_ret2
    exact ⟨HB1.out, .inl ⟨HF.out, rfl⟩⟩
end Go.Proofs.YtndiionpijjdbaaDoor.SwW
