/- The walk of granaryref1.numberAt. -/
import Derived.Test.YtndhmdengadmjaaRecRd
set_option linter.unusedVariables false
namespace Go.Proofs.Ytndhmdengadmjaa.RecW
open Go.RowKit Rec BufW

/-- What numberAt says. -/
def NumAt (l : List UInt8) (a : Nat) (e : Ending) : Prop :=
  (∀ x rest, dec (l.drop a) = some (x, rest) → e = .returned (.tuple #[.int .i64 x, .int .i64 ((l.length - rest.length : Nat) : Int)])) ∧ (dec (l.drop a) = none → e = .returned (.tuple #[.int .i64 0, .int .i64 (-1)]))
theorem NumAt.bad {l : List UInt8} {a : Nat} (hn : dec (l.drop a) = none) : NumAt l a (.returned (.tuple #[.int .i64 0, .int .i64 (-1)])) := ⟨fun x rest hx => (by rw [hn] at hx; cases hx), fun _ => rfl⟩
theorem NumAt.good {l : List UInt8} {a x k : Nat} {rest : List UInt8} (hn : dec (l.drop a) = some (x, rest)) (hk : k = l.length - rest.length) : NumAt l a (.returned (.tuple #[.int .i64 x, .int .i64 k])) :=
  ⟨fun x' rest' hx => (by rw [hn] at hx; injection hx with hx; injection hx with h1 h2; subst h1 h2; rw [hk]), fun h => (by rw [hn] at h; cases h)⟩

set_option maxRecDepth 20000 in
set_option maxHeartbeats 2000000 in
theorem numberAt_any (A : Option Addr) (c n : Nat) (l : List UInt8) (a : Nat) (w : World) (hn : n = l.length) (h : Rd w A (u8v l)) (hl : n ≤ 1000000000) (ha : a ≤ n) :
    Calls Try.prog 26 #[.slice A n c, .int .i64 a] w fun e w' => NumAt l a e ∧ w' = w := by
  have H := hide h
  have HN := hide hn
  clear h hn
  go_enter Try.func26, Try.ntmps26
  go_wp2_with fail
  go_loop [6, 7] (fun x i => ∃ (i' p : Nat), i' ≤ 9 ∧ i = .int .i64 i' ∧ x = .int .i64 p ∧ Hid (p < 128 ^ i' ∧ a + i' ≤ n ∧ decF 9 true (l.drop a) = (decF (9 - i') (i' == 0) (l.drop (a + i'))).map (fun q => (p + 128 ^ i' * q.1, q.2)))) (fun _ i => 9 - (intOf i).toNat)
  case atStart => exact ⟨0, 0, by omega, rfl, rfl, hide ⟨by decide, by simpa using ha, by simp⟩⟩
  case round =>
    obtain ⟨i, p, hi, rfl, rfl, HS⟩ := hrel
    by_cases hlt : i < 9
    · have hd1 : decide ((i : Int) < 9) = true := by simp; omega
      cases hb : l[a + i]? with
      | none =>
        have hge : decide ((a : Int) + (i : Int) ≥ (n : Int)) = true := by rw [List.getElem?_eq_none_iff] at hb; simp; have := HN.out; omega
        have HNN : Hid (dec (l.drop a) = none) := hide (by
          have h1 := HS.out.2.2
          rw [List.getElem?_eq_none_iff] at hb
          rw [List.drop_of_length_le (by omega : l.length ≤ a + i)] at h1
          have h2 : decF (9 - i) (i == 0) [] = none := by
            obtain ⟨q, hq⟩ : ∃ q, 9 - i = q + 1 := ⟨8 - i, by omega⟩
            rw [hq]; rfl
          rw [h2] at h1
          unfold dec
          rw [h1]; rfl)
        clear hb
        go_wp2_with fail
        go_ret2
        exact ⟨NumAt.bad HNN.out, rfl⟩
      | some b =>
        have hlt2 := (List.getElem?_eq_some_iff.1 hb).1
        have hge : decide ((a : Int) + (i : Int) ≥ (n : Int)) = false := by simp; have := HN.out; omega
        have hlti : (a : Int) + (i : Int) < (n : Int) := by have := HN.out; omega
        obtain ⟨ab, off, rfl, hck⟩ := H.out.at_ (i := a + i) (by rw [u8v_length]; exact hlt2)
        have e1 : (u8v l)[a + i]'(by rw [u8v_length]; exact hlt2) = .int .u8 b.toNat := by
          have : l[a + i] = b := by rw [List.getElem?_eq_getElem hlt2] at hb; exact Option.some.inj hb
          simp only [u8v, List.getElem_map, this]
        rw [e1] at hck
        have HDR := hide (drop_some hb)
        have HLT : Hid (a + i < n) := hide (by have := HN.out; omega)
        clear hb e1 hlt2
        obtain ⟨t, ht⟩ : ∃ t, t = b.toNat % 128 := ⟨_, rfl⟩
        obtain ⟨T, hT⟩ : ∃ T, T = t * 2 ^ (7 * i) := ⟨_, rfl⟩
        have htl : t < 128 := by omega
        have hpow : 2 ^ (7 * i) ≤ 2 ^ 56 := Nat.pow_le_pow_right (by omega) (by omega)
        have hTl : T < 9223372036854775808 := by
          rw [hT]
          have : t * 2 ^ (7 * i) ≤ 127 * 2 ^ 56 := Nat.mul_le_mul (by omega) hpow
          omega
        have hp1 : p < 2 ^ (7 * i) := by have h1 := HS.out.1; rwa [show (128 : Nat) = 2 ^ 7 from rfl, ← Nat.pow_mul] at h1
        have hPl : p + T < 9223372036854775808 := by
          have h1 : (t + 1) * 2 ^ (7 * i) ≤ 128 * 2 ^ 56 := Nat.mul_le_mul (by omega) hpow
          rw [Nat.add_mul, Nat.one_mul, ← hT] at h1
          omega
        have HP : Hid (p + T = p + 128 ^ i * t) := hide (by rw [hT, show (128 : Nat) = 2 ^ 7 from rfl, ← Nat.pow_mul, Nat.mul_comm])
        have HTT := hide ht
        have f1 : (b.toNat : Int) % 128 = (t : Int) := by omega
        have f3 : wrap64 ((t : Int) * 2 ^ (7 * i)) = (T : Int) := by
          have e : (t : Int) * 2 ^ (7 * i) = (T : Int) := by rw [hT]; push_cast; rfl
          rw [e]
          exact wrap_small T hTl
        obtain ⟨P', hP'⟩ : ∃ P', P' = p + T := ⟨_, rfl⟩
        have f4 : (p : Int) + (T : Int) = (P' : Int) := by rw [hP', Int.natCast_add]
        rw [← hP'] at HP hPl
        have hbl : b.toNat < 256 := b.toNat_lt
        have hP0 : decide ((P' : Int) < 0) = false := by simp
        clear ht hT hpow hp1 hP'
        by_cases hsm : b.toNat < 128
        · have hsmd : decide ((b.toNat : Int) < 128) = true := by simp; omega
          have HSM := hide hsm
          by_cases hz : b.toNat = 0
          · have hzb : ((b.toNat : Int) == 0) = true := by simp [hz]
            by_cases hi0 : 0 < i
            · have hid : decide ((i : Int) > 0) = true := by simp; omega
              have HNN : Hid (dec (l.drop a) = none) := hide (by
                have h1 := HS.out.2.2
                rw [HDR.out] at h1
                obtain ⟨q, hq⟩ : ∃ q, 9 - i = q + 1 := ⟨8 - i, by omega⟩
                have hib : (i == 0) = false := by simp; omega
                rw [hq, hib, decF, if_pos hsm, if_pos ⟨hz, rfl⟩] at h1
                unfold dec
                rw [h1]; rfl)
              clear hz hsm
              go_wp2_with fail
              all_goals go_ret2
              all_goals exact ⟨NumAt.bad HNN.out, rfl⟩
            · have HI0 : Hid (i = 0) := hide (by omega)
              have hid : decide ((i : Int) > 0) = false := by simp; omega
              have hp0 : p = 0 := by have := HS.out.1; rw [HI0.out] at this; simp at this; exact this
              have ht0 : t = 0 := by have := HTT.out; rw [this, hz]
              have hP0' : P' = 0 := by rw [HP.out, hp0, ht0]; rfl
              have HNN : Hid (dec (l.drop a) = some (P', l.drop (a + i + 1))) := hide (by
                have h1 := HS.out.2.2
                rw [HDR.out, HI0.out] at h1
                rw [show (9 : Nat) - 0 = 8 + 1 from rfl, decF, if_pos hsm, if_neg (fun h => by cases h.2), Option.map_some] at h1
                unfold dec
                rw [h1, hp0, hz, hP0', HI0.out]
                rfl)
              have hbd : decide ((P' : Int) > 4611686018427387904) = false := by rw [hP0']; rfl
              have hbi : ¬ (4611686018427387904 : Int) < (P' : Int) := by rw [hP0']; decide
              have HE : Hid (a + i + 1 = l.length - (l.drop (a + i + 1)).length) := hide (by rw [List.length_drop]; have := HLT.out; have := HN.out; omega)
              clear hP0' ht0 hz hsm hp0
              go_wp2_with fail
              go_ret2
              refine ⟨?_, rfl⟩
              have := NumAt.good HNN.out HE.out
              simpa using this
          · have hzb : ((b.toNat : Int) == 0) = false := by simp; omega
            have HDEC : Hid (decF 9 true (l.drop a) = some (P', l.drop (a + i + 1))) := hide (by
              have h1 := HS.out.2.2
              rw [HDR.out] at h1
              obtain ⟨q, hq⟩ : ∃ q, 9 - i = q + 1 := ⟨8 - i, by omega⟩
              rw [hq, decF, if_pos hsm, if_neg (fun h => hz h.1), Option.map_some] at h1
              rw [h1, HP.out, HTT.out, Nat.mod_eq_of_lt hsm])
            clear hz hsm
            by_cases hbig : top < P'
            · have hbi : (4611686018427387904 : Int) < (P' : Int) := by unfold top at hbig; omega
              have hbd : decide ((P' : Int) > 4611686018427387904) = true := decide_eq_true hbi
              have HNN : Hid (dec (l.drop a) = none) := hide (by unfold dec; rw [HDEC.out, Option.bind_some, if_neg (by simp only; omega)])
              clear hbig
              go_wp2_with fail
              all_goals go_ret2
              all_goals exact ⟨NumAt.bad HNN.out, rfl⟩
            · have hbi : ¬ (4611686018427387904 : Int) < (P' : Int) := by unfold top at hbig; omega
              have hbd : decide ((P' : Int) > 4611686018427387904) = false := decide_eq_false hbi
              have HNN : Hid (dec (l.drop a) = some (P', l.drop (a + i + 1))) := hide (by unfold dec; rw [HDEC.out, Option.bind_some, if_pos (by simp only; omega)])
              have HE : Hid (a + i + 1 = l.length - (l.drop (a + i + 1)).length) := hide (by rw [List.length_drop]; have := HLT.out; have := HN.out; omega)
              clear hbig
              go_wp2_with fail
              go_ret2
              refine ⟨?_, rfl⟩
              have := NumAt.good HNN.out HE.out
              simpa using this
        · have hsmi : decide ((b.toNat : Int) < 128) = false := by simp; omega
          have HNX : Hid (P' < 128 ^ (i + 1) ∧ decF 9 true (l.drop a) = (decF (9 - (i + 1)) (i + 1 == 0) (l.drop (a + (i + 1)))).map (fun q => (P' + 128 ^ (i + 1) * q.1, q.2))) := hide (by
            refine ⟨?_, ?_⟩
            · rw [HP.out, Nat.pow_succ]
              have h1 := HS.out.1
              have h2 : 128 ^ i * (t + 1) ≤ 128 ^ i * 128 := Nat.mul_le_mul (Nat.le_refl _) (by omega)
              rw [Nat.mul_add, Nat.mul_one] at h2
              omega
            · have h1 := HS.out.2.2
              rw [HDR.out] at h1
              obtain ⟨q, hq⟩ : ∃ q, 9 - i = q + 1 := ⟨8 - i, by omega⟩
              have hq2 : 9 - (i + 1) = q := by omega
              have hib : (i + 1 == 0) = false := by simp
              rw [hq, decF, if_neg hsm, Option.map_map] at h1
              rw [h1, hq2, hib, ← Nat.add_assoc]
              congr 1
              funext y
              simp only [Function.comp, HP.out, HTT.out, Prod.mk.injEq, and_true]
              rw [Nat.pow_succ, Nat.mul_add, Nat.mul_assoc]
              omega)
          clear hsm
          go_wp2_with fail
          go_round
          case rel => exact ⟨i + 1, P', by omega, by go_num, rfl, hide ⟨HNX.out.1, by have := HLT.out; omega, HNX.out.2⟩⟩
          case measure => simp [intOf]; omega
    · have hd1 : decide ((i : Int) < 9) = false := by simp; omega
      have HNN : Hid (dec (l.drop a) = none) := hide (by
        have h1 := HS.out.2.2
        have h2 : 9 - i = 0 := by omega
        rw [h2, decF] at h1
        unfold dec
        rw [h1]; rfl)
      go_wp2_with fail
      go_ret2
      exact ⟨NumAt.bad HNN.out, rfl⟩
end Go.Proofs.Ytndhmdengadmjaa.RecW
