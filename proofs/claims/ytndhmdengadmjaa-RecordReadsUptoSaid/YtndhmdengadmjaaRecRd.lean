/- The walks of record.reader's byte and number. -/
import Derived.Test.YtndhmdengadmjaaRecPlain
import Derived.Test.YtndhmdengadmjaaBufW
import Derived.Test.YtndhmdengadmjaaStill
set_option linter.unusedVariables false
namespace Go.Proofs.Ytndhmdengadmjaa.RecW
open Go.RowKit Rec BufW

/-- What a reader panics with. -/
def shortV : Value := .iface 86 (.agg #[])
def shortP : List PanicEntry := [{ v := shortV, recovered := false }]
/-- The reader in block rb: its bytes l, where it stands. -/
structure Rdr (w : World) (B rb : Nat) (A : Option Addr) (c : Nat) (l : List UInt8) (at_ : Nat) : Prop where
  bk : Bk w rb 69 #[.slice A l.length c, .int .i64 at_]
  low : B ≤ rb
  src : BufW.Data w B l A c
/-- The kind of block that a reader's calls write. -/
def rdrT : Obj → Prop
  | .cells _ t _ => t = 69
  | _ => False
theorem Rdr.fr {w w' : World} {B rb at_ : Nat} {A : Option Addr} {c : Nat} {l : List UInt8} {T : Obj → Prop} (h : Rdr w B rb A c l at_) (hf : Fr B T w w') (h1 : ∀ cs r, ¬ T (.cells cs 69 r)) (h2 : ∀ cs r, ¬ T (.cells cs 5 r)) : Rdr w' B rb A c l at_ :=
  ⟨hf.bk h.bk (h1 _ _), h.low, h.src.fr hf h2⟩
theorem Rdr.at_ {w : World} {B rb a a' : Nat} {A : Option Addr} {c : Nat} {l : List UInt8} (h : Rdr w B rb A c l a) :
    Rdr (w.setCell ⟨rb, 1, none⟩ (.int .i64 a')) B rb A c l a' ∧ Fr B rdrT w (w.setCell ⟨rb, 1, none⟩ (.int .i64 a')) := by
  have f := Fr.set (T := rdrT) (p := ⟨rb, 1, none⟩) h.bk h.low rfl (.int .i64 a')
  exact ⟨⟨h.bk.put 1 _, h.low, h.src.fr f (fun cs r => by simp only [rdrT]; decide)⟩, f⟩
theorem Rdr.drewN {w : World} {B rb a : Nat} {A : Option Addr} {c : Nat} {l : List UInt8} (h : Rdr w B rb A c l a) (d : Nat) : Rdr (w.drewN d) B rb A c l a := ⟨h.bk, h.low, h.src⟩
theorem fr_drewN {B : Nat} {T : Obj → Prop} {a w : World} (h : Fr B T a w) (d : Nat) : Fr B T a (w.drewN d) := ⟨below_drewN h.low d, h.keep⟩

set_option maxHeartbeats 1000000 in
theorem byte_ok (B rb : Nat) (A : Option Addr) (c : Nat) (l : List UInt8) (a : Nat) (w : World) (h : Rdr w B rb A c l a) (x : UInt8) (hx : l[a]? = some x) :
    Calls Try.prog 34 #[ptr rb] w fun e w' => e = .returned (.int .u8 x.toNat) ∧ Rdr w' B rb A c l (a + 1) ∧ Fr B rdrT w w' := by
  have hlt := (List.getElem?_eq_some_iff.1 hx).1
  have r0 := h.bk.at_ (i := 0) (u := .slice A l.length c) rfl
  have r1 := h.bk.at_ (i := 1) (u := .int .i64 a) rfl
  have hfz := h.bk.free 1
  obtain ⟨b, off, rfl, -, hc⟩ := h.src.2.2.2.form (by rw [u8v_length]; omega)
  have hcx := hc a (by rw [u8v_length]; exact hlt)
  have e1 : (u8v l)[a]'(by rw [u8v_length]; exact hlt) = .int .u8 x.toNat := by
    have : l[a] = x := by rw [List.getElem?_eq_getElem hlt] at hx; exact Option.some.inj hx
    simp only [u8v, List.getElem_map, this]
  rw [e1] at hcx
  have hbne : b ≠ rb := by
    rintro rfl
    rcases h.src.2.2.1 with h0 | h0
    · subst h0; simp at hlt
    · rcases h0 _ rfl with h1 | ⟨cs, r, h1⟩
      · have := h.low; simp only at h1; omega
      · have h2 := h.bk
        unfold Bk at h2
        simp only at h1
        rw [h2] at h1
        injection h1 with h1
        injection h1 with _ h1
        exact absurd h1 (by decide)
  have hcap := h.src.2.1
  obtain ⟨n, hn⟩ : ∃ n, n = l.length := ⟨_, rfl⟩
  have HN := hide hn
  rw [← hn] at r0 hlt hcap
  have H := hide h
  have hd : decide ((a : Int) ≥ (n : Int)) = false := by simp; omega
  have hlti : (a : Int) < (n : Int) := by omega
  clear hc h hx e1 hn
  unfold ptr
  go_enter Try.func34, Try.ntmps34
  go_wp2_with fail
  go_quiet (fail)
  go_wp2_with fail
  have e2 : ((a : Int) + 1) = ((a + 1 : Nat) : Int) := by omega
  have hat := (H.out.drewN nq).at_ (a' := a + 1)
  rw [← e2] at hat
  have s0 := hat.1.bk.at_ (i := 0) (u := .slice (some ⟨b, off, none⟩) n c) (by rw [HN.out]; rfl)
  have s1 : ((w.drewN nq).setCell ⟨rb, 1, none⟩ (.int .i64 ((a : Int) + 1))).cell? ⟨rb, 1, none⟩ = some (.int .i64 ((a : Int) + 1)) := by
    rw [e2]
    exact hat.1.bk.at_ (i := 1) rfl
  have s2 : ((w.drewN nq).setCell ⟨rb, 1, none⟩ (.int .i64 ((a : Int) + 1))).cell? ⟨b, off + a, none⟩ = some (.int .u8 x.toNat) := by
    rw [World.cell?_of_block (w := w.drewN nq) (Below.heap_setCell (w.drewN nq) ⟨rb, 1, none⟩ _ b hbne)]
    exact hcx
  have HAT := hide hat
  clear hat e2 r0 r1 hcx
  generalize (w.drewN nq).setCell ⟨rb, 1, none⟩ (.int .i64 ((a : Int) + 1)) = W2 at *
  go_quiet (fail)
  go_wp2_with fail
  go_ret
  exact ⟨rfl, HAT.out.1.drewN _, fr_drewN ((fr_drewN (Fr.refl B rdrT w) _).trans HAT.out.2) _⟩

set_option maxHeartbeats 1000000 in
theorem byte_short (B rb : Nat) (A : Option Addr) (c : Nat) (l : List UInt8) (a : Nat) (w : World) (h : Rdr w B rb A c l a) (hx : l.length ≤ a) :
    Calls Try.prog 34 #[ptr rb] w fun e w' => e = .panicked shortP ∧ ∃ d, w' = w.drewN d := by
  have r0 := h.bk.at_ (i := 0) (u := .slice A l.length c) rfl
  have r1 := h.bk.at_ (i := 1) (u := .int .i64 a) rfl
  obtain ⟨n, hn⟩ : ∃ n, n = l.length := ⟨_, rfl⟩
  rw [← hn] at r0 hx
  have hd : decide ((a : Int) ≥ (n : Int)) = true := by simp; omega
  clear h hn
  unfold ptr
  go_enter Try.func34, Try.ntmps34
  go_wp2_with fail
  go_quiet (fail)
  go_wp2_with fail
  exact ⟨rfl, rfl, ⟨_, rfl⟩⟩

theorem and127' : ∀ a : Fin 256, bits .and .u8 (a.val : Int) 127 = ((a.val % 128 : Nat) : Int) := by decide +kernel
theorem and127 (b : UInt8) : bits .and .u8 (b.toNat : Int) 127 = ((b.toNat % 128 : Nat) : Int) := and127' ⟨b.toNat, b.toNat_lt⟩
theorem wrap_small (t : Nat) (h : t < 9223372036854775808) : wrap64 (t : Int) = (t : Int) := by unfold wrap64; omega
theorem or_add' (p q : Nat) (h : p ||| q = p + q) (hl : p + q < 9223372036854775808) : bits .or .i64 (p : Int) (q : Int) = ((p + q : Nat) : Int) := by
  have e : ∀ k : Nat, k < 9223372036854775808 → (BitVec.ofInt 64 (k : Int)).toNat = k := fun k hk => by
    rw [BitVec.ofInt_natCast, BitVec.toNat_ofNat]; exact Nat.mod_eq_of_lt (by omega)
  show IntKind.i64.wrap ((BitVec.ofInt 64 (p : Int) ||| BitVec.ofInt 64 (q : Int)).toNat : Int) = _
  rw [BitVec.toNat_or, e p (by omega), e q (by omega), h, IntKind.wrap_i64]
  omega
theorem or_add (p t k : Nat) (hp : p < 2 ^ k) (hl : p + t * 2 ^ k < 9223372036854775808) : bits .or .i64 (p : Int) ((t * 2 ^ k : Nat) : Int) = ((p + t * 2 ^ k : Nat) : Int) := by
  refine or_add' p (t * 2 ^ k) ?_ hl
  rw [Nat.or_comm, Nat.mul_comm t, ← Nat.two_pow_add_eq_or_of_lt hp, Nat.add_comm]
/-- What 'number' does where the bytes l stand at a. -/
def NumPost (w : World) (B rb : Nat) (A : Option Addr) (c : Nat) (l : List UInt8) (a : Nat) (e : Ending) (w' : World) : Prop :=
  Fr B rdrT w w' ∧ (∀ x rest, dec (l.drop a) = some (x, rest) → e = .returned (.int .i64 x) ∧ Rdr w' B rb A c l (l.length - rest.length)) ∧ (dec (l.drop a) = none → e = .panicked shortP ∧ ∃ a', Rdr w' B rb A c l a')

theorem NumPost.bad {w w' : World} {B rb c a a' : Nat} {A : Option Addr} {l : List UInt8} (hn : dec (l.drop a) = none) (hf : Fr B rdrT w w') (hr : Rdr w' B rb A c l a') : NumPost w B rb A c l a (.panicked shortP) w' :=
  ⟨hf, fun x rest hx => (by rw [hn] at hx; cases hx), fun _ => ⟨rfl, a', hr⟩⟩
theorem NumPost.good {w w' : World} {B rb c a x : Nat} {A : Option Addr} {l rest : List UInt8} (hn : dec (l.drop a) = some (x, rest)) (hf : Fr B rdrT w w') (hr : Rdr w' B rb A c l (l.length - rest.length)) : NumPost w B rb A c l a (.returned (.int .i64 x)) w' :=
  ⟨hf, fun x' rest' hx => (by rw [hn] at hx; injection hx with hx; injection hx with h1 h2; subst h1 h2; exact ⟨rfl, hr⟩), fun h => (by rw [hn] at h; cases h)⟩
theorem drop_some {l : List UInt8} {k : Nat} {b : UInt8} (h : l[k]? = some b) : l.drop k = b :: l.drop (k + 1) := by
  obtain ⟨hk, hb⟩ := List.getElem?_eq_some_iff.1 h
  rw [← hb, List.drop_eq_getElem_cons hk]

set_option maxRecDepth 20000 in
set_option maxHeartbeats 2000000 in
theorem rnumber_any (B rb : Nat) (A : Option Addr) (c : Nat) (l : List UInt8) (a : Nat) (w : World) (h : Rdr w B rb A c l a) (ha : a ≤ l.length) :
    Calls Try.prog 33 #[ptr rb] w (NumPost w B rb A c l a) := by
  have H := hide h
  have HA := hide ha
  clear h ha
  unfold ptr
  go_enter Try.func33, Try.ntmps33
  go_wp2_with fail
  go_loopw [3, 6] (fun x i wr => ∃ (i' p : Nat), i' ≤ 9 ∧ i = .int .i64 i' ∧ x = .int .i64 p ∧ Hid (p < 128 ^ i' ∧ a + i' ≤ l.length ∧ decF 9 true (l.drop a) = (decF (9 - i') (i' == 0) (l.drop (a + i'))).map (fun q => (p + 128 ^ i' * q.1, q.2)) ∧ Rdr wr B rb A c l (a + i') ∧ Fr B rdrT w wr)) (fun _ i _ => 9 - (intOf i).toNat)
  case atStart => exact ⟨0, 0, by omega, rfl, rfl, hide ⟨by decide, by simpa using HA.out, by simp, by simpa using H.out, Fr.refl _ _ _⟩⟩
  case round =>
    obtain ⟨i, p, hi, rfl, rfl, HS⟩ := hrel
    by_cases hlt : i < 9
    · have hd1 : decide ((i : Int) < 9) = true := by simp; omega
      cases hb : l[a + i]? with
      | none =>
        have HB := hide (byte_short B rb A c l (a + i) wr HS.out.2.2.2.1 (by rw [List.getElem?_eq_none_iff] at hb; exact hb))
        have HN : Hid (dec (l.drop a) = none) := hide (by
          have h1 := HS.out.2.2.1
          rw [List.getElem?_eq_none_iff] at hb
          rw [List.drop_of_length_le (by omega : l.length ≤ a + i)] at h1
          have h2 : decF (9 - i) (i == 0) [] = none := by
            obtain ⟨q, hq⟩ : ∃ q, 9 - i = q + 1 := ⟨8 - i, by omega⟩
            rw [hq]; rfl
          rw [h2] at h1
          unfold dec
          rw [h1]; rfl)
        unfold ptr at HB
        clear hb
        go_wp2_with (first
          | (go_at_call 34
             refine HB.out.mono ?_
             rintro e w1 ⟨rfl, d, rfl⟩)
          | fail)
        exact ⟨rfl, NumPost.bad HN.out (fr_drewN HS.out.2.2.2.2 _) (HS.out.2.2.2.1.drewN _)⟩
      | some b =>
        have HB := hide (byte_ok B rb A c l (a + i) wr HS.out.2.2.2.1 b hb)
        have HX := hide hb
        have HDR := hide (drop_some hb)
        have HLT := hide (List.getElem?_eq_some_iff.1 hb).1
        unfold ptr at HB
        clear hb
        obtain ⟨t, ht⟩ : ∃ t, t = b.toNat % 128 := ⟨_, rfl⟩
        obtain ⟨T, hT⟩ : ∃ T, T = t * 2 ^ (7 * i) := ⟨_, rfl⟩
        have htl : t < 128 := by omega
        have hpow : 2 ^ (7 * i) ≤ 2 ^ 56 := Nat.pow_le_pow_right (by omega) (by omega)
        have hTl : T < 9223372036854775808 := by
          rw [hT]
          have : t * 2 ^ (7 * i) ≤ 127 * 2 ^ 56 := Nat.mul_le_mul (by omega) hpow
          omega
        have hp1 : p < 2 ^ (7 * i) := by have h1 := HS.out.1; rwa [show (128 : Nat) = 2 ^ 7 from rfl, ← Nat.pow_mul] at h1
        have hPl : p + T < 9223372036854775808 := by
          have h1 : (t + 1) * 2 ^ (7 * i) ≤ 128 * 2 ^ 56 := Nat.mul_le_mul (by omega) hpow
          rw [Nat.add_mul, Nat.one_mul, ← hT] at h1
          omega
        have f1 : bits .and .u8 (b.toNat : Int) 127 = (t : Int) := by rw [ht]; exact and127 b
        have f2 : wrap64 (t : Int) = (t : Int) := wrap_small t (by omega)
        have f3 : wrap64 ((t : Int) * 2 ^ (7 * i)) = (T : Int) := by
          have e : (t : Int) * 2 ^ (7 * i) = (T : Int) := by rw [hT]; push_cast; rfl
          rw [e]
          exact wrap_small T hTl
        have f4 : bits .or .i64 (p : Int) (T : Int) = ((p + T : Nat) : Int) := by rw [hT]; exact or_add p t (7 * i) hp1 (by rw [← hT]; exact hPl)
        have HP : Hid (p + T = p + 128 ^ i * t) := hide (by rw [hT, show (128 : Nat) = 2 ^ 7 from rfl, ← Nat.pow_mul, Nat.mul_comm])
        have HTT := hide ht
        have HPP := hide hp1
        obtain ⟨P', hP'⟩ : ∃ P', P' = p + T := ⟨_, rfl⟩
        rw [← hP'] at f4 HP hPl
        clear ht hT hTl hpow hp1 hP'
        by_cases hsm : b.toNat < 128
        · have hsmi : (b.toNat : Int) < 128 := by omega
          have HSM := hide hsm
          by_cases hz : b.toNat = 0
          · have hzb : ((b.toNat : Int) == 0) = true := by simp [hz]
            by_cases hi0 : 0 < i
            · have HN : Hid (dec (l.drop a) = none) := hide (by
                have h1 := HS.out.2.2.1
                rw [HDR.out] at h1
                obtain ⟨q, hq⟩ : ∃ q, 9 - i = q + 1 := ⟨8 - i, by omega⟩
                have hib : (i == 0) = false := by simp; omega
                rw [hq, hib, decF, if_pos hsm, if_pos ⟨hz, rfl⟩] at h1
                unfold dec
                rw [h1]; rfl)
              clear hz
              go_wp2_with (first
                | (go_at_call 34
                   refine HB.out.mono ?_
                   rintro e w1 ⟨rfl, hr1, hf1⟩
                   have HR1 := hide hr1
                   have HF1 := hide hf1
                   clear hr1 hf1)
                | fail)
              exact ⟨rfl, NumPost.bad HN.out (HS.out.2.2.2.2.trans HF1.out) HR1.out⟩
            · obtain rfl : i = 0 := by omega
              have hp0 : p = 0 := by have := HS.out.1; simp at this; exact this
              have ht0 : t = 0 := by have := HTT.out; rw [this, hz]
              have hP0 : P' = 0 := by rw [HP.out, hp0, ht0]
              have HN : Hid (dec (l.drop a) = some (0, l.drop (a + 0 + 1))) := hide (by
                have h1 := HS.out.2.2.1
                rw [HDR.out] at h1
                rw [show (9 : Nat) - 0 = 8 + 1 from rfl, decF, if_pos hsm, if_neg (fun h => by cases h.2), Option.map_some] at h1
                unfold dec
                rw [h1, hp0, hz]
                rfl)
              have g1 : bits .and .u8 0 127 = 0 := by decide +kernel
              have g2 : wrap64 0 = 0 := by decide +kernel
              have g3 : bits .or .i64 0 0 = 0 := by decide +kernel
              subst hp0
              clear f1 f2 f3 f4 hP0 ht0 hi0
              go_wp2_with (first
                | (go_at_call 34
                   refine HB.out.mono ?_
                   rintro e w1 ⟨rfl, hr1, hf1⟩
                   have HR1 := hide hr1
                   have HF1 := hide hf1
                   clear hr1 hf1)
                | fail)
              go_ret
              exact NumPost.good HN.out (HS.out.2.2.2.2.trans HF1.out) (by
                have e : l.length - (l.drop (a + 0 + 1)).length = a + 0 + 1 := by rw [List.length_drop]; have := HLT.out; omega
                rw [e]
                exact HR1.out)
          · have hzb : ((b.toNat : Int) == 0) = false := by simp; omega
            have HDEC : Hid (decF 9 true (l.drop a) = some (P', l.drop (a + i + 1))) := hide (by
              have h1 := HS.out.2.2.1
              rw [HDR.out] at h1
              obtain ⟨q, hq⟩ : ∃ q, 9 - i = q + 1 := ⟨8 - i, by omega⟩
              rw [hq, decF, if_pos hsm, if_neg (fun h => hz h.1), Option.map_some] at h1
              rw [h1, HP.out, HTT.out, Nat.mod_eq_of_lt hsm])
            clear hz
            by_cases hbig : top < P'
            · have hbi : (4611686018427387904 : Int) < (P' : Int) := by unfold top at hbig; omega
              have hbd : decide ((P' : Int) > 4611686018427387904) = true := decide_eq_true hbi
              have HN : Hid (dec (l.drop a) = none) := hide (by unfold dec; rw [HDEC.out, Option.bind_some, if_neg (by simp only; omega)])
              clear hbig
              go_wp2_with (first
                | (go_at_call 34
                   refine HB.out.mono ?_
                   rintro e w1 ⟨rfl, hr1, hf1⟩
                   have HR1 := hide hr1
                   have HF1 := hide hf1
                   clear hr1 hf1)
                | fail)
              exact ⟨rfl, NumPost.bad HN.out (HS.out.2.2.2.2.trans HF1.out) HR1.out⟩
            · have hbi : ¬ (4611686018427387904 : Int) < (P' : Int) := by unfold top at hbig; omega
              have hbd : decide ((P' : Int) > 4611686018427387904) = false := decide_eq_false hbi
              have HN : Hid (dec (l.drop a) = some (P', l.drop (a + i + 1))) := hide (by unfold dec; rw [HDEC.out, Option.bind_some, if_pos (by simp only; omega)])
              clear hbig
              go_wp2_with (first
                | (go_at_call 34
                   refine HB.out.mono ?_
                   rintro e w1 ⟨rfl, hr1, hf1⟩
                   have HR1 := hide hr1
                   have HF1 := hide hf1
                   clear hr1 hf1)
                | fail)
              go_ret
              exact NumPost.good HN.out (HS.out.2.2.2.2.trans HF1.out) (by
                have e : l.length - (l.drop (a + i + 1)).length = a + i + 1 := by rw [List.length_drop]; have := HLT.out; omega
                rw [e]
                exact HR1.out)
        · have hsmi : ¬ (b.toNat : Int) < 128 := by omega
          have hdn : decide ((b.toNat : Int) < 128) = false := decide_eq_false hsmi
          have HNX : Hid (P' < 128 ^ (i + 1) ∧ decF 9 true (l.drop a) = (decF (9 - (i + 1)) (i + 1 == 0) (l.drop (a + (i + 1)))).map (fun q => (P' + 128 ^ (i + 1) * q.1, q.2))) := hide (by
            refine ⟨?_, ?_⟩
            · rw [HP.out, Nat.pow_succ]
              have h1 := HS.out.1
              have h2 : 128 ^ i * (t + 1) ≤ 128 ^ i * 128 := Nat.mul_le_mul (Nat.le_refl _) (by omega)
              rw [Nat.mul_add, Nat.mul_one] at h2
              omega
            · have h1 := HS.out.2.2.1
              rw [HDR.out] at h1
              obtain ⟨q, hq⟩ : ∃ q, 9 - i = q + 1 := ⟨8 - i, by omega⟩
              have hq2 : 9 - (i + 1) = q := by omega
              have hib : (i + 1 == 0) = false := by simp
              rw [hq, decF, if_neg hsm, Option.map_map] at h1
              rw [h1, hq2, hib, ← Nat.add_assoc]
              congr 1
              funext y
              simp only [Function.comp, HP.out, HTT.out, Prod.mk.injEq, and_true]
              rw [Nat.pow_succ, Nat.mul_add, Nat.mul_assoc]
              omega)
          go_wp2_with (first
            | (go_at_call 34
               refine HB.out.mono ?_
               rintro e w1 ⟨rfl, hr1, hf1⟩
               have HR1 := hide hr1
               have HF1 := hide hf1
               clear hr1 hf1)
            | fail)
          go_roundw
          case rel => exact ⟨i + 1, P', by omega, by go_num, rfl, hide ⟨HNX.out.1, by have := HLT.out; omega, HNX.out.2, HR1.out, HS.out.2.2.2.2.trans HF1.out⟩⟩
          case measure => simp [intOf]; omega
    · have hd1 : decide ((i : Int) < 9) = false := by simp; omega
      have HN : Hid (dec (l.drop a) = none) := hide (by
        have h1 := HS.out.2.2.1
        have h2 : 9 - i = 0 := by omega
        rw [h2, decF] at h1
        unfold dec
        rw [h1]; rfl)
      go_wp2_with fail
      exact ⟨rfl, NumPost.bad HN.out HS.out.2.2.2.2 HS.out.2.2.2.1⟩
end Go.Proofs.Ytndhmdengadmjaa.RecW
