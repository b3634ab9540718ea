/- The walk of granaryref1.seven. -/
import Derived.Test.YtndhmdengadmjaaDoorRecPlain
import Derived.Test.YtndhmdengadmjaaDoorBytes
set_option linter.unusedVariables false
namespace Go.Proofs.YtndhmdengadmjaaDoor.RecW
open Go.RowKit Rec

/-- What seven says. -/
def SevPost (w : World) (x : Nat) (e : Ending) (w' : World) : Prop :=
  ∃ A c, e = .returned (.slice A (num x).length c) ∧ w'.ownsRow w.heap.size 5 1 (.slice A (num x).length c) (num x).length (u8v (num x)) ∧ Below w.heap.size w w'

set_option maxRecDepth 20000 in
set_option maxHeartbeats 1000000 in
theorem seven_any : ∀ (r x : Nat) (w : World), x < 128 ^ (r + 1) → r ≤ 8 → Calls Tryd.prog 30 #[.int .i64 x] w (SevPost w x) := by
  intro r
  induction r with
  | zero =>
    intro x w hx _
    have hx1 : x < 128 := by simpa using hx
    have hd : decide ((x : Int) < 128) = true := by simp; omega
    have hb : (x : Int) % 256 = ((UInt8.ofNat x).toNat : Int) := by rw [ofNat_toNat (by omega)]; omega
    have HN := hide (num_small hx1)
    clear hx
    go_enter Tryd.func30, Tryd.ntmps30
    go_wp2_with fail
    go_ret
    unfold SevPost
    rw [HN.out]
    have hu : u8v [UInt8.ofNat x] = [.int .u8 (x : Int)] := by show [Value.int .u8 ((UInt8.ofNat x).toNat : Int)] = _; rw [ofNat_toNat (by omega)]
    rw [hu]
    exact ⟨_, _, rfl, own_new w w.heap.size 5 #[.int .u8 (x : Int)] 1 (Nat.le_refl _) (by decide) rfl, (Below.refl _ _).alloc (Nat.le_refl _) _⟩
  | succ r ih =>
    intro x w hx hr
    by_cases hx1 : x < 128
    · exact ih x w (Nat.lt_of_lt_of_le hx1 (by
        have : 128 ^ 1 ≤ 128 ^ (r + 1) := Nat.pow_le_pow_right (by omega) (by omega)
        simpa using this)) (by omega)
    · have hd : decide ((x : Int) < 128) = false := by simp; omega
      have hb : 128 + (x : Int) % 128 = ((UInt8.ofNat (128 + x % 128)).toNat : Int) := by rw [ofNat_toNat (by omega)]; omega
      have HN := hide (num_big hx1)
      have HIH := hide (ih (x / 128) w (div_lt hx) (by omega))
      have HL : Hid ((num (x / 128)).length ≤ 9) := hide (num_len_le 9 _ (Nat.lt_of_lt_of_le (div_lt hx) (Nat.pow_le_pow_right (by omega) (by omega))) (by omega))
      obtain ⟨z, hz⟩ : ∃ z, z = UInt8.ofNat (128 + x % 128) := ⟨_, rfl⟩
      rw [← hz] at hb HN
      obtain ⟨m, hm⟩ : ∃ m, m = x / 128 := ⟨_, rfl⟩
      have HM := hide hm
      rw [← hm] at HIH HL HN
      have HW : Hid (wrap64 (m : Int) = (m : Int)) := hide (by
        have h1 : m < 128 ^ 8 := by rw [hm]; exact Nat.lt_of_lt_of_le (div_lt hx) (Nat.pow_le_pow_right (by omega) hr)
        unfold wrap64; omega)
      clear hx hx1 ih hz hm
      unfold SevPost at HIH
      go_enter Tryd.func30, Tryd.ntmps30
      go_wp2_with fail
      rw [show ((x : Int) / 128) = (m : Int) from by have := HM.out; omega, HW.out]
      refine HIH.out.mono ?_
      rintro e w1 ⟨A1, c1, rfl, ho1, hb1⟩
      obtain ⟨l, hl⟩ : ∃ l, l = num m := ⟨_, rfl⟩
      rw [← hl] at ho1 HN HL ⊢
      obtain ⟨n, hn⟩ : ∃ n, n = l.length := ⟨_, rfl⟩
      rw [← hn] at ho1 HL ⊢
      have HLN := hide hn
      have HB1 := hide hb1
      have HNEW := hide (own_new w1 w1.heap.size 5 #[.int .u8 (z.toNat : Int)] 1 (Nat.le_refl _) (by decide) rfl)
      have HR := hide ((Rd.of_own ho1).alloc (.cells #[.int .u8 (z.toNat : Int)] 5))
      clear hl hn ho1 hb1 HIH
      go_wp2_with (first
        | (refine wpList_app _ rfl (.tmp 18) (.tmp 19) rfl w1.heap.size _ 1 [z] rfl HNEW.out A1 n c1 l rfl HLN.out HR.out (by have := HL.out; omega) (by simp) ?_
           intro A2 c2 w2 hc2 ho2 hb2)
        | fail)
      go_ret
      unfold SevPost
      have e : (num x).length = 1 + n := by rw [HN.out, List.length_cons, ← HLN.out]; omega
      rw [e, HN.out]
      exact ⟨_, _, rfl, own_base ho2 HB1.out.size, HB1.out.trans (((Below.refl _ _).alloc (Nat.le_refl _) _ |>.trans hb2).mono HB1.out.size)⟩
end Go.Proofs.YtndhmdengadmjaaDoor.RecW
