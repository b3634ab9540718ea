/- The walks of granaryref1.place, bit, CheckOf, BytesFault. -/
import Derived.Test.YtakgbejeaheihaaDoorCheckPlain
import Derived.Test.YtakgbejeaheihaaDoorSame
import Derived.Laws.BitsAllLaws
set_option linter.unusedVariables false
namespace Go.Proofs.YtakgbejeaheihaaDoor.RefW
open Go.RowKit Pop PlacesW WordW ProtectW MendW Ham CheckP

theorem and_pow (p : Nat) (hp : p < 4294967296) (h0 : 0 < p) : bits .and .i64 (p : Int) ((p : Int) - 1) = ((p &&& (p - 1) : Nat) : Int) :=
  and_i64 p (p - 1) _ _ rfl (by omega) (by omega) (by omega)

theorem nf_succ (p : Nat) : nf (p + 1) = nf p + (if (p + 1) &&& p = 0 then 0 else 1) := rfl
theorem nf_lo (p : Nat) : -1 ≤ nf p ∧ nf p ≤ p := by
  induction p with
  | zero => decide
  | succ p ih => rw [nf_succ]; split <;> omega
theorem plc_le : ∀ i : Fin 64, plc i.val ≤ 71 ∧ 3 ≤ plc i.val := by decide +kernel

attribute [local irreducible] nf plc

theorem place_any (i : Nat) (hi : i < 64) (w : World) :
    Calls Tryd.prog 29 #[.int .i64 i] w fun e w' => e = .returned (.int .i64 (plc i)) ∧ w = w' := by
  have hpl := plc_le ⟨i, hi⟩
  simp only at hpl
  go_enter Tryd.func29, Tryd.ntmps29
  go_wp2
  go_loop [3, 4] (fun p n => ∃ q : Nat, 2 ≤ q ∧ q ≤ plc i ∧ p = .int .i64 q ∧ n = .int .i64 (nf q)) (fun p _ => 100 - (intOf p).toNat)
  case atStart => exact ⟨2, by omega, by omega, rfl, by rw [nf_two]⟩
  case round =>
    obtain ⟨q, hq2, hqp, rfl, rfl⟩ := hrel
    have ht := nf_table ⟨i, hi⟩ ⟨q, by omega⟩ hq2
    simp only at ht
    have hlo := nf_lo q
    by_cases hlt : nf q < (i : Int)
    · have hqlt := ht.1 hlt
      have hand := and_pow (q + 1) (by omega) (by omega)
      have hs := nf_succ q
      have e1 : (((q + 1 : Nat) : Int)) = (q : Int) + 1 := by omega
      have e2 : ((q : Int) + 1 - 1) = (q : Int) := by omega
      rw [Nat.add_sub_cancel, e1, e2] at hand
      clear ht e1 e2
      by_cases hz : (q + 1) &&& q = 0
      · rw [hz] at hand
        rw [if_pos hz] at hs
        have HS : Hid (nf (q + 1) = nf q) := hide (by omega)
        clear hz hs
        go_wp2
        go_round
        case rel => exact ⟨q + 1, by omega, by omega, by go_num, by rw [HS.out]⟩
        case measure => simp [intOf]; omega
      · rw [if_neg hz] at hs
        obtain ⟨z, hz2⟩ : ∃ z, z = (q + 1) &&& q := ⟨_, rfl⟩
        rw [← hz2] at hand hz
        have hzn : ((z : Int) != 0) = true := by simp; omega
        have HS : Hid (nf (q + 1) = nf q + 1) := hide hs
        clear hz hz2 hs
        go_wp2
        go_round
        case rel => exact ⟨q + 1, by omega, by omega, by go_num, by rw [HS.out]⟩
        case measure => simp [intOf]; omega
    · have hge := ht.2 (by omega)
      obtain rfl : q = plc i := by omega
      clear ht
      go_wp2
      go_ret
      exact ⟨rfl, rfl⟩

theorem bit_and (z k : Nat) (hz : z < 256) : bits .and .i64 ((z : Int) / 2 ^ k) 1 = (((z / 2 ^ k) % 2 : Nat) : Int) := by
  have e : ((z : Int) / 2 ^ k) = ((z / 2 ^ k : Nat) : Int) := by simp
  have hle : z / 2 ^ k ≤ z := Nat.div_le_self _ _
  rw [e, show (1 : Int) = ((1 : Nat) : Int) from rfl, and_i64 (z / 2 ^ k) 1 _ _ rfl rfl (by omega) (by omega), Nat.and_one_is_mod]

theorem bit_any (A : Option Addr) (l : List UInt8) (n cap i : Nat) (w : World) (hn : n = l.length) (hl : l.length = 8) (hi : i < 64) (hr : Rd w A (u8v l)) :
    Calls Tryd.prog 28 #[.slice A n cap, .int .i64 i] w fun e w' => e = .returned (.int .i64 ((le l / 2 ^ i) % 2 : Nat)) ∧ w = w' := by
  have hb := bit_le l i (by omega)
  obtain ⟨b, off, rfl, hc⟩ := hr.at_ (i := i / 8) (by rw [u8v_length]; omega)
  simp only [u8v, List.getElem_map] at hc
  have hx : (l[i / 8]'(by omega)).toNat = (l.getD (i / 8) 0).toNat := by simp [List.getD, show i / 8 < l.length by omega]
  rw [hx] at hc
  have hz := (l.getD (i / 8) 0).toNat_lt
  generalize (l.getD (i / 8) 0).toNat = z at hc hb hz
  have hand := bit_and z (i % 8) (by omega)
  have HB := hide hb
  have h8 : i / 8 < n := by omega
  have x1 : ((i : Int) % 8).toNat = i % 8 := by omega
  have x2 : ((i : Int) / 8).toNat = i / 8 := by omega
  clear hb hx hn hl
  have hq0 : 0 ≤ (z : Int) / 2 ^ (i % 8) := by
    have e : ((z : Int) / 2 ^ (i % 8)) = ((z / 2 ^ (i % 8) : Nat) : Int) := by simp
    rw [e]
    exact Int.natCast_nonneg _
  have hq1 : (z : Int) / 2 ^ (i % 8) ≤ 255 := by
    have e : ((z : Int) / 2 ^ (i % 8)) = ((z / 2 ^ (i % 8) : Nat) : Int) := by simp
    have hle : z / 2 ^ (i % 8) ≤ z := Nat.div_le_self _ _
    rw [e]
    have h255 : z / 2 ^ (i % 8) ≤ 255 := Nat.le_trans hle (Nat.le_of_lt_succ hz)
    have : ((z / 2 ^ (i % 8) : Nat) : Int) ≤ ((255 : Nat) : Int) := Int.ofNat_le.2 h255
    exact this
  generalize hy : ((z / 2 ^ (i % 8) % 2 : Nat) : Int) = y at hand
  have HY := hide hy
  clear hy
  go_enter Tryd.func28, Tryd.ntmps28
  go_wp2
  go_ret
  exact ⟨by rw [HB.out, HY.out]; rfl, rfl⟩

theorem bytesFault_ok (A : Option Addr) (n cap : Nat) (w : World) (h8 : n % 8 = 0) (hm : n ≤ 4096) :
    Calls Tryd.prog 7 #[.slice A n cap] w fun e w' => e = .returned (.int .i64 0) ∧ w = w' := by
  have h : ((n : Int) % 8 != 0) = false := by simp; omega
  have hm' : (n : Int) ≤ 4096 := by omega
  clear h8
  go_enter Tryd.func7, Tryd.ntmps7
  go_wp2
  go_ret
  exact ⟨rfl, rfl⟩
theorem bytesFault_shape (A : Option Addr) (n cap : Nat) (w : World) (h8 : n % 8 ≠ 0) :
    Calls Tryd.prog 7 #[.slice A n cap] w fun e w' => e = .returned (.int .i64 2) ∧ w = w' := by
  have h : ((n : Int) % 8 != 0) = true := by simp; omega
  clear h8
  go_enter Tryd.func7, Tryd.ntmps7
  go_wp2
  go_ret
  exact ⟨rfl, rfl⟩
theorem bytesFault_full (A : Option Addr) (n cap : Nat) (w : World) (h8 : n % 8 = 0) (hm : 4096 < n) :
    Calls Tryd.prog 7 #[.slice A n cap] w fun e w' => e = .returned (.int .i64 3) ∧ w = w' := by
  have h : ((n : Int) % 8 != 0) = false := by simp; omega
  have hm' : (4096 : Int) < (n : Int) := by omega
  clear h8
  go_enter Tryd.func7, Tryd.ntmps7
  go_wp2
  go_ret
  exact ⟨rfl, rfl⟩

theorem xor_i64 (a b : Nat) (ha : a < 256) (hb : b < 256) : bits .xor .i64 (a : Int) (b : Int) = ((a ^^^ b : Nat) : Int) := by
  have hlt : a ^^^ b < 256 := xor_lt ha hb
  have e : ∀ k : Nat, k < 256 → (BitVec.ofInt 64 (k : Int)).toNat = k := fun k hk => by
    rw [BitVec.ofInt_natCast, BitVec.toNat_ofNat]; exact Nat.mod_eq_of_lt (by omega)
  show IntKind.i64.wrap ((BitVec.ofInt 64 (a : Int) ^^^ BitVec.ofInt 64 (b : Int)).toNat : Int) = _
  rw [BitVec.toNat_xor, e a ha, e b hb, IntKind.wrap_i64]
  omega

theorem par_step (s j : Nat) : popc (j + 1) s % 2 = if (s / 2 ^ j) % 2 = 1 then 1 - popc j s % 2 else popc j s % 2 := by
  rw [popc_succ]
  split <;> omega

attribute [local irreducible] low popc chk le

set_option maxHeartbeats 1000000 in
theorem checkOf_any (A : Option Addr) (l : List UInt8) (n cap : Nat) (w : World) (hn : n = l.length) (hl : l.length = 8) (hr : Rd w A (u8v l)) :
    Calls Tryd.prog 25 #[.slice A n cap] w fun e w' => e = .returned (.int .i64 (chk (le l))) ∧ w = w' := by
  have HN := hide hn
  have HL := hide hl
  have hx64 : le l < 18446744073709551616 := by
    have h := le_lt l
    rw [hl] at h
    have : (256 : Nat) ^ 8 = 18446744073709551616 := by decide
    omega
  have HX64 := hide hx64
  obtain ⟨x, hx⟩ : ∃ x, x = le l := ⟨_, rfl⟩
  have HX := hide hx
  clear hn hl hx hx64
  go_enter Tryd.func25, Tryd.ntmps25
  go_wp2
  go_loop [3, 4, 5, 6, 7] (fun s odd i _ _ => ∃ (k a o : Nat), k ≤ 64 ∧ i = .int .i64 k ∧ s = .int .i64 a ∧ odd = .int .i64 o ∧ o ≤ 1 ∧ a < 128 ∧ Hid (a = low (x % 2 ^ k) ∧ o = popc k x % 2)) (fun _ _ i _ _ => 64 - (intOf i).toNat)
  case atStart => exact ⟨0, 0, 0, by omega, rfl, rfl, rfl, by omega, by omega, hide ⟨by rw [show x % 2 ^ 0 = 0 by simp [Nat.mod_one]]; decide +kernel, by unfold popc; rfl⟩⟩
  case round =>
    obtain ⟨k, a, o, hk, rfl, rfl, rfl, ho, ha, HA⟩ := hrel
    by_cases hlt : k < 64
    · have hd := low_step x k hlt
      have hp := popc_succ k x
      have hpl := plc_le ⟨k, hlt⟩
      simp only at hpl
      by_cases hb : (x / 2 ^ k) % 2 = 1
      · rw [if_pos hb] at hd
        rw [hb] at hp
        have hxor := xor_i64 a (plc k) (by omega) (by omega)
        have HN2 : Hid ((a ^^^ plc k) = low (x % 2 ^ (k + 1)) ∧ 1 - o = popc (k + 1) x % 2) := hide ⟨by rw [hd, ← HA.out.1], by have := HA.out.2; omega⟩
        have hal : a ^^^ plc k < 128 := Nat.xor_lt_two_pow (n := 7) (by omega) (by omega)
        generalize a ^^^ plc k = a2 at hxor HN2 hal
        have HB := hide hb
        clear hd hp hb
        go_wp2_with fail
        refine (bit_any A l n cap k _ HN.out HL.out hlt hr).mono ?_
        rintro e w1 ⟨rfl, rfl⟩
        rw [← HX.out, HB.out]
        go_wp2_with fail
        refine (place_any k hlt _).mono ?_
        rintro e w1 ⟨rfl, rfl⟩
        go_wp2_with fail
        go_round
        case rel => exact ⟨k + 1, a2, 1 - o, by omega, by go_num, rfl, by go_num, by omega, hal, HN2⟩
        case measure => simp [intOf]; omega
      · have hb0 : (x / 2 ^ k) % 2 = 0 := by omega
        rw [if_neg hb] at hd
        rw [hb0] at hp
        have HN2 : Hid (a = low (x % 2 ^ (k + 1)) ∧ o = popc (k + 1) x % 2) := hide ⟨by rw [hd, ← HA.out.1], by have := HA.out.2; omega⟩
        have HB := hide hb0
        clear hd hp hb hb0
        go_wp2_with fail
        refine (bit_any A l n cap k _ HN.out HL.out hlt hr).mono ?_
        rintro e w1 ⟨rfl, rfl⟩
        rw [← HX.out, HB.out]
        go_wp2_with fail
        go_round
        case rel => exact ⟨k + 1, a, o, by omega, by go_num, rfl, rfl, by omega, ha, HN2⟩
        case measure => simp [intOf]; omega
    · obtain rfl : k = 64 := by omega
      have HS : Hid (a = low x ∧ o = popc 64 x % 2) := by
        refine hide ⟨?_, HA.out.2⟩
        have h1 := HA.out.1
        rwa [Nat.mod_eq_of_lt (by have := HX64.out; have := HX.out; omega)] at h1
      clear HA
      go_wp2_with fail
      go_loop [4, 8] (fun odd j => ∃ (k p : Nat), k ≤ 7 ∧ j = .int .i64 k ∧ odd = .int .i64 p ∧ p ≤ 1 ∧ Hid (p = (o + popc k a) % 2)) (fun _ j => 7 - (intOf j).toNat)
      case atStart => exact ⟨0, o, by omega, rfl, rfl, ho, hide (by unfold popc; omega)⟩
      case round =>
        obtain ⟨k, p, hk, rfl, rfl, hp1, HP⟩ := hrel
        by_cases hlt : k < 7
        · have hand := bit_and a k (by omega)
          have hst := popc_succ k a
          by_cases hb : (a / 2 ^ k) % 2 = 1
          · rw [hb] at hand hst
            have HN2 : Hid (1 - p = (o + popc (k + 1) a) % 2) := hide (by have := HP.out; omega)
            clear hst hb
            go_wp2_with fail
            go_round
            case rel => exact ⟨k + 1, 1 - p, by omega, by go_num, by go_num, by omega, HN2⟩
            case measure => simp [intOf]; omega
          · have hb0 : (a / 2 ^ k) % 2 = 0 := by omega
            rw [hb0] at hand hst
            have HN2 : Hid (p = (o + popc (k + 1) a) % 2) := hide (by have := HP.out; omega)
            clear hst hb hb0
            go_wp2_with fail
            go_round
            case rel => exact ⟨k + 1, p, by omega, by go_num, rfl, by omega, HN2⟩
            case measure => simp [intOf]; omega
        · obtain rfl : k = 7 := by omega
          have HF : Hid (((a : Int) + 128 * (p : Int)) = ((chk x : Nat) : Int)) := by
            refine hide ?_
            have h1 := HS.out.1
            have h2 := HS.out.2
            have h3 := HP.out
            have h4 := popc_seven ⟨a, ha⟩
            simp only at h4
            rw [chk_low, ← h1, h4]
            omega
          go_wp2_with fail
          go_ret
          exact ⟨by rw [← HX.out, ← HF.out]; rfl, rfl⟩
end Go.Proofs.YtakgbejeaheihaaDoor.RefW
