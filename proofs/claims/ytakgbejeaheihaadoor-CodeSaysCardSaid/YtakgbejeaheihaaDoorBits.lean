/- The walks of math/bits.OnesCount64, OnesCount, OnesCount8, Len8. -/
import Derived.Test.YtakgbejeaheihaaDoorBase
import Derived.Test.YtakgbejeaheihaaDoorPopPlain
import Derived.Test.YtakgbejeaheihaaDoorChecked
import Derived.WalkLawsBesides
import Derived.Lib.BitFns
namespace Go.Proofs.YtakgbejeaheihaaDoor
theorem and_u64 (y m : Nat) (z c : Int) (hz : z = (y : Int)) (hc : c = (m : Int)) (hy : y < 18446744073709551616) (hm : m < 18446744073709551616) : bits .and .u64 z c = ((y &&& m : Nat) : Int) := by
  subst hz; subst hc; exact u64_and_nat y m hy hm

theorem and_i64 (y m : Nat) (z c : Int) (hz : z = (y : Int)) (hc : c = (m : Int)) (hy : y < 9223372036854775808) (hm : m < 9223372036854775808) : bits .and .i64 z c = ((y &&& m : Nat) : Int) := by
  subst hz; subst hc
  have hlt : y &&& m < 2 ^ 63 := Nat.and_lt_two_pow _ (by omega)
  have e : ∀ k : Nat, k < 9223372036854775808 → (BitVec.ofInt 64 (k : Int)).toNat = k := fun k hk => by
    rw [BitVec.ofInt_natCast, BitVec.toNat_ofNat]; exact Nat.mod_eq_of_lt (by omega)
  show IntKind.i64.wrap ((BitVec.ofInt 64 (y : Int) &&& BitVec.ofInt 64 (m : Int)).toNat : Int) = _
  rw [BitVec.toNat_and, e y hy, e m hm, IntKind.wrap_i64]
  omega
end Go.Proofs.YtakgbejeaheihaaDoor
namespace Go.Proofs.YtakgbejeaheihaaDoor.BitsW
open Go.RowKit Pop

theorem ones64 (x : Nat) (hx : x < 18446744073709551616) (w : World) :
    Calls Tryd.prog 22 #[.int .u64 x] w fun e w' => e = .returned (.int .i64 (popc 64 x)) ∧ w = w' := by
  have m1 : m55 8 = 6148914691236517205 := by decide
  have m2 : m33 8 = 3689348814741910323 := by decide
  have m3 : m0f 8 = 1085102592571150095 := by decide
  obtain ⟨a1, ha1⟩ : ∃ a1, a1 = x / 2 &&& 6148914691236517205 := ⟨_, rfl⟩
  obtain ⟨a2, ha2⟩ : ∃ a2, a2 = x &&& 6148914691236517205 := ⟨_, rfl⟩
  have la1 : a1 ≤ 6148914691236517205 := ha1 ▸ Nat.and_le_right
  have la2 : a2 ≤ 6148914691236517205 := ha2 ▸ Nat.and_le_right
  obtain ⟨b1, hb1⟩ : ∃ b1, b1 = (a1 + a2) / 4 &&& 3689348814741910323 := ⟨_, rfl⟩
  obtain ⟨b2, hb2⟩ : ∃ b2, b2 = (a1 + a2) &&& 3689348814741910323 := ⟨_, rfl⟩
  have lb1 : b1 ≤ 3689348814741910323 := hb1 ▸ Nat.and_le_right
  have lb2 : b2 ≤ 3689348814741910323 := hb2 ▸ Nat.and_le_right
  obtain ⟨c, hc⟩ : ∃ c, c = ((b1 + b2) / 16 + (b1 + b2)) &&& 1085102592571150095 := ⟨_, rfl⟩
  have lc : c ≤ 1085102592571150095 := hc ▸ Nat.and_le_right
  have hs : swar x = (((c + c / 256) + (c + c / 256) / 65536) + ((c + c / 256) + (c + c / 256) / 65536) / 4294967296) % 128 := by
    unfold swar s1 s2 s3
    rw [m1, m2, m3, ← ha1, ← ha2, ← hb1, ← hb2, ← hc]
  have f1 : bits .and .u64 ((x : Int) / 2) 6148914691236517205 = (a1 : Int) := by rw [ha1]; exact and_u64 (x / 2) _ _ _ (by omega) rfl (by omega) (by omega)
  have f2 : bits .and .u64 (x : Int) 6148914691236517205 = (a2 : Int) := by rw [ha2]; exact and_u64 x _ _ _ rfl rfl hx (by omega)
  have f3 : bits .and .u64 (((a1 : Int) + a2) / 4) 3689348814741910323 = (b1 : Int) := by rw [hb1]; exact and_u64 ((a1 + a2) / 4) _ _ _ (by omega) rfl (by omega) (by omega)
  have f4 : bits .and .u64 ((a1 : Int) + a2) 3689348814741910323 = (b2 : Int) := by rw [hb2]; exact and_u64 (a1 + a2) _ _ _ (by omega) rfl (by omega) (by omega)
  have f5 : bits .and .u64 (((b1 : Int) + b2) / 16 + ((b1 : Int) + b2)) 1085102592571150095 = (c : Int) := by rw [hc]; exact and_u64 ((b1 + b2) / 16 + (b1 + b2)) _ _ _ (by omega) rfl (by omega) (by omega)
  have f6 : bits .and .i64 ((((c : Int) + c / 256) + (c + c / 256) / 65536) + ((c + c / 256) + (c + c / 256) / 65536) / 4294967296) 127 = ((popc 64 x : Nat) : Int) := by
    rw [← swar_popc, hs, ← nat_mask7]
    exact and_i64 (((c + c / 256) + (c + c / 256) / 65536) + ((c + c / 256) + (c + c / 256) / 65536) / 4294967296) _ _ _ (by omega) rfl (by omega) (by omega)
  clear m1 m2 m3 ha1 ha2 hb1 hb2 hc hs
  generalize popc 64 x = n at f6
  go_enter Tryd.func22, Tryd.ntmps22
  go_wp2
  go_ret
  exact ⟨rfl, rfl⟩

/-- OnesCount: uint has 64 bits here. -/
theorem ones (x : Nat) (hx : x < 18446744073709551616) (w : World) :
    Calls Tryd.prog 26 #[.int .u64 x] w fun e w' => e = .returned (.int .i64 (popc 64 x)) ∧ w = w' := by
  go_enter Tryd.func26, Tryd.ntmps26
  go_wp2_with (go_at_call 22; refine (ones64 x hx _).mono ?_; rintro e w' ⟨rfl, rfl⟩)
  go_ret
  exact ⟨rfl, rfl⟩

set_option maxRecDepth 100000 in
theorem pop8_popc : ∀ n : Fin 256, (Lib.pop8tab[n.val]'(by rw [Lib.pop8tab_size]; exact n.isLt)).toNat = popc 8 n.val := by decide +kernel

set_option maxRecDepth 100000 in
theorem ones8 (x : Nat) (hx : x < 256) (w : World) :
    Calls Tryd.prog 23 #[.int .u8 x] w fun e w' => e = .returned (.int .i64 (popc 8 x)) ∧ w = w' := by
  have h := pop8_popc ⟨x, hx⟩
  have hle := popc_le 8 x
  simp only at h
  have H := hide h
  clear h
  go_enter Tryd.func23, Tryd.ntmps23
  go_wp2
  go_ret
  refine ⟨congrArg (fun n => Ending.returned (.int .i64 n)) (a₁ := wrap64 _) ?_, rfl⟩
  rw [H.out]
  exact IntWalk.wrap64_in _ ⟨by omega, by omega⟩

/-- How many binary digits a number has. -/
def blen (n : Nat) : Nat := if n = 0 then 0 else Nat.log2 n + 1

set_option maxRecDepth 100000 in
theorem len8_blen : ∀ n : Fin 256, (Lib.len8tab[n.val]'(by rw [Lib.len8tab_size]; exact n.isLt)).toNat = blen n.val ∧ blen n.val ≤ 8 := by decide +kernel

set_option maxRecDepth 100000 in
theorem len8 (x : Nat) (hx : x < 256) (w : World) :
    Calls Tryd.prog 24 #[.int .u8 x] w fun e w' => e = .returned (.int .i64 (blen x)) ∧ w = w' := by
  obtain ⟨h, hle⟩ := len8_blen ⟨x, hx⟩
  simp only at h hle
  have H := hide h
  clear h
  go_enter Tryd.func24, Tryd.ntmps24
  go_wp2
  go_ret
  refine ⟨congrArg (fun n => Ending.returned (.int .i64 n)) (a₁ := wrap64 _) ?_, rfl⟩
  rw [H.out]
  exact IntWalk.wrap64_in _ ⟨by omega, by omega⟩
end Go.Proofs.YtakgbejeaheihaaDoor.BitsW
