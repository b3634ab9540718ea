/- The walk of sweep.fault. -/
import Derived.Test.YtndiionpijjdbaaDoorSweepO
set_option linter.unusedVariables false
namespace Go.Proofs.YtndiionpijjdbaaDoor.SwW
open Go.RowKit I64 Stab

def errR (k : Int) : Value := .iface 30 (.int .i64 k)
/-- An error that may be none. -/
def errV (k : Int) : Value := if k = 0 then .nilIface else errR k
theorem errV_zero : errV 0 = .nilIface := if_pos rfl
theorem errV_ne {k : Int} (h : k ≠ 0) : errV k = errR k := if_neg h
/-- A block's numbers may be. -/
def okB (pages : Int) (x : Blk) : Prop := 0 ≤ x.lv ∧ x.lv ≤ pages ∧ 0 ≤ x.wr ∧ x.wr ≤ 1000000000
instance (pages : Int) (x : Blk) : Decidable (okB pages x) := inferInstanceAs (Decidable (_ ∧ _ ∧ _ ∧ _))
open Classical in
/-- What is wrong with blocks. -/
noncomputable def flt (S : Nat → Blk) (n : Nat) (pages : Int) (more : Bool) : Int := if 64 < n then 3 else if pages < 1 ∨ 4096 < pages ∨ more = true then 1 else if ∀ i, i < n → okB pages (S i) then 0 else 1
theorem flt_zero {S : Nat → Blk} {n : Nat} {pages : Int} {more : Bool} (h : flt S n pages more = 0) : n ≤ 64 ∧ 1 ≤ pages ∧ pages ≤ 4096 ∧ more = false ∧ ∀ i, i < n → okB pages (S i) := by
  unfold flt at h
  by_cases h1 : 64 < n
  · rw [if_pos h1] at h; omega
  · rw [if_neg h1] at h
    by_cases h2 : pages < 1 ∨ 4096 < pages ∨ more = true
    · rw [if_pos h2] at h; omega
    · rw [if_neg h2] at h
      by_cases h3 : ∀ i, i < n → okB pages (S i)
      · have hm : ¬ more = true := fun e => h2 (.inr (.inr e))
        exact ⟨by omega, by omega, by omega, by simpa using hm, h3⟩
      · rw [if_neg h3] at h; omega

attribute [local irreducible] flt okB
set_option maxRecDepth 20000 in
set_option maxHeartbeats 2000000 in
theorem fault_any (A : Option Addr) (n c : Nat) (S : Nat → Blk) (T : Nat) (pages : Int) (more : Bool) (w : World) (hr : RdB w A n S T) (hT : T ≤ w.heap.size) (hn : n ≤ 9223372036854775807) :
    Calls Tryd.prog 15 #[.slice A n c, .int .i64 pages, .bool more] w fun e w' => e = .returned (errV (flt S n pages more)) ∧ Below w.heap.size w w' := by
  by_cases h1 : 64 < n
  · have HF : Hid (errV (flt S n pages more) = errR 3) := hide (by unfold flt; rw [if_pos h1]; exact errV_ne (by decide))
    have d1 : decide ((n : Int) > 64) = true := by simp; omega
    have d1' : decide (64 < n) = true := by simpa using h1
    clear hr h1
    go_enter Tryd.func15, Tryd.ntmps15
    go_wp2_with fail
    go_ret
    exact ⟨by rw [HF.out]; rfl, Below.refl _ _⟩
  have d1 : decide ((n : Int) > 64) = false := by simp; omega
  have d1' : decide (64 < n) = false := by simpa using h1
  by_cases h2 : pages < 1 ∨ 4096 < pages ∨ more = true
  · have HF : Hid (errV (flt S n pages more) = errR 1) := hide (by unfold flt; rw [if_neg h1, if_pos h2]; exact errV_ne (by decide))
    by_cases k1 : pages < 1
    · have d2 : decide (pages < 1) = true := decide_eq_true k1
      clear hr h1 h2 k1
      go_enter Tryd.func15, Tryd.ntmps15
      go_wp2_with fail
      go_ret
      exact ⟨by rw [HF.out]; rfl, Below.refl _ _⟩
    have d2 : decide (pages < 1) = false := decide_eq_false k1
    by_cases k2 : 4096 < pages
    · have d3 : decide (pages > 4096) = true := decide_eq_true k2
      clear hr h1 h2 k1 k2
      go_enter Tryd.func15, Tryd.ntmps15
      go_wp2_with fail
      go_ret
      exact ⟨by rw [HF.out]; rfl, Below.refl _ _⟩
    have d3 : decide (pages > 4096) = false := decide_eq_false k2
    obtain rfl : more = true := by rcases h2 with h | h | h; exact absurd h k1; exact absurd h k2; exact h
    clear hr h1 h2 k1 k2
    go_enter Tryd.func15, Tryd.ntmps15
    go_wp2_with fail
    go_ret
    exact ⟨by rw [HF.out]; rfl, Below.refl _ _⟩
  have hm : more = false := by cases more; rfl; exact absurd (.inr (.inr rfl)) h2
  subst hm
  have d2 : decide (pages < 1) = false := decide_eq_false (by omega)
  have d3 : decide (pages > 4096) = false := decide_eq_false (by omega)
  have HR := hide hr
  have HF2 : Hid (∀ k, k < n → ¬ okB pages (S k) → errV (flt S n pages false) = errR 1) := hide (fun k hk hb => by unfold flt; rw [if_neg h1, if_neg h2, if_neg (fun h => hb (h k hk))]; exact errV_ne (by decide))
  have HF0 : Hid ((∀ i, i < n → okB pages (S i)) → errV (flt S n pages false) = .nilIface) := hide (fun h => by unfold flt; rw [if_neg h1, if_neg h2, if_pos h]; exact errV_zero)
  clear hr h2
  go_enter Tryd.func15, Tryd.ntmps15
  go_wp2_with fail
  go_loopw [25] (fun i wr => ∃ k : Nat, i = .int .i64 k ∧ k ≤ n ∧ Hid (∀ j, j < k → okB pages (S j)) ∧ Hid (Below w.heap.size w wr)) (fun i _ => n - (intOf i).toNat)
  case atStart => exact ⟨0, rfl, by omega, hide (fun j hj => absurd hj (Nat.not_lt_zero j)), hide (Below.refl _ _)⟩
  case round =>
    obtain ⟨k, rfl, hk, HK, HB⟩ := hrel
    by_cases hlt : k < n
    · have e1 : decide (k < n) = true := by simpa using hlt
      have e1' : decide ((k : Int) < (n : Int)) = true := by simp; omega
      have hki : (k : Int) < (n : Int) := by omega
      obtain ⟨b, off, rfl, hbT, z0, z1, z2⟩ := (HR.out.below HB.out hT) k hlt
      obtain ⟨x, hx⟩ : ∃ x, x = S k := ⟨_, rfl⟩
      have HX := hide hx
      rw [← hx] at z0 z1 z2
      have HBAD : Hid (¬ okB pages x → errV (flt S n pages false) = errR 1) := hide (fun h => HF2.out k hlt (by rw [← hx]; exact h))
      clear hx
      by_cases b1 : x.lv < 0
      · have q1 : decide (x.lv < 0) = true := decide_eq_true b1
        have HE := hide (HBAD.out (by unfold okB; omega))
        have HB2 := hide (HB.out.alloc HB.out.size (.cells #[.bool x.u, .int .i64 x.lv, .int .i64 x.wr] 42))
        clear b1
        go_wp2_with fail
        go_ret
        exact ⟨by rw [HE.out]; rfl, HB2.out⟩
      have q1 : decide (x.lv < 0) = false := decide_eq_false b1
      by_cases b2 : pages < x.lv
      · have q2 : decide (x.lv > pages) = true := decide_eq_true b2
        have HE := hide (HBAD.out (by unfold okB; omega))
        have HB2 := hide (HB.out.alloc HB.out.size (.cells #[.bool x.u, .int .i64 x.lv, .int .i64 x.wr] 42))
        clear b1 b2
        go_wp2_with fail
        go_ret
        exact ⟨by rw [HE.out]; rfl, HB2.out⟩
      have q2 : decide (x.lv > pages) = false := decide_eq_false b2
      by_cases b3 : x.wr < 0
      · have q3 : decide (x.wr < 0) = true := decide_eq_true b3
        have HE := hide (HBAD.out (by unfold okB; omega))
        have HB2 := hide (HB.out.alloc HB.out.size (.cells #[.bool x.u, .int .i64 x.lv, .int .i64 x.wr] 42))
        clear b1 b2 b3
        go_wp2_with fail
        go_ret
        exact ⟨by rw [HE.out]; rfl, HB2.out⟩
      have q3 : decide (x.wr < 0) = false := decide_eq_false b3
      by_cases b4 : 1000000000 < x.wr
      · have q4 : decide (x.wr > 1000000000) = true := decide_eq_true b4
        have HE := hide (HBAD.out (by unfold okB; omega))
        have HB2 := hide (HB.out.alloc HB.out.size (.cells #[.bool x.u, .int .i64 x.lv, .int .i64 x.wr] 42))
        clear b1 b2 b3 b4
        go_wp2_with fail
        go_ret
        exact ⟨by rw [HE.out]; rfl, HB2.out⟩
      have q4 : decide (x.wr > 1000000000) = false := decide_eq_false b4
      have HK2 : Hid (∀ j, j < k + 1 → okB pages (S j)) := hide (fun j hj => by
        rcases Nat.lt_or_ge j k with h | h
        · exact HK.out j h
        · rw [show j = k from by omega, ← HX.out]; unfold okB; omega)
      have HB2 := hide (HB.out.alloc HB.out.size (.cells #[.bool x.u, .int .i64 x.lv, .int .i64 x.wr] 42))
      clear b1 b2 b3 b4
      go_wp2_with fail
      go_roundw
      case rel => exact ⟨k + 1, by go_num, by omega, HK2, HB2⟩
      case measure => simp [intOf]; omega
    · obtain rfl : k = n := by omega
      have e1 : decide (k < k) = false := by simp
      have e1' : decide ((k : Int) < (k : Int)) = false := by simp
      have HE := hide (HF0.out HK.out)
      go_wp2_with fail
      go_ret
      exact ⟨by rw [HE.out]; rfl, HB.out⟩
end Go.Proofs.YtndiionpijjdbaaDoor.SwW
