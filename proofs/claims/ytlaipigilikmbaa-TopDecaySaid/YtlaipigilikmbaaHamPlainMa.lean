/- Plain: what the check bytes of words tell of turned bits. -/
import Derived.Test.YtlaipigilikmbaaMendMa
set_option linter.unusedVariables false
namespace Go.Proofs.Ytlaipigilikmbaa.Ham
open Pop PlacesW WordW ProtectW BitsW MendW

theorem xor_join (k a b a' b' : Nat) (ha : a < 2 ^ k) (ha' : a' < 2 ^ k) : (a + b * 2 ^ k) ^^^ (a' + b' * 2 ^ k) = (a ^^^ a') + (b ^^^ b') * 2 ^ k := by
  have h1 : ((a + b * 2 ^ k) ^^^ (a' + b' * 2 ^ k)) / 2 ^ k = b ^^^ b' := by
    rw [Nat.xor_div_two_pow, Nat.add_mul_div_right _ _ (Nat.two_pow_pos k), Nat.add_mul_div_right _ _ (Nat.two_pow_pos k), Nat.div_eq_of_lt ha, Nat.div_eq_of_lt ha', Nat.zero_add, Nat.zero_add]
  have h2 : ((a + b * 2 ^ k) ^^^ (a' + b' * 2 ^ k)) % 2 ^ k = a ^^^ a' := by
    rw [Nat.xor_mod_two_pow, Nat.add_mul_mod_self_right, Nat.add_mul_mod_self_right, Nat.mod_eq_of_lt ha, Nat.mod_eq_of_lt ha']
  have := Nat.div_add_mod ((a + b * 2 ^ k) ^^^ (a' + b' * 2 ^ k)) (2 ^ k)
  rw [h1, h2, Nat.mul_comm] at this
  omega

theorem bit_xor (a b : Nat) : (a + b) % 2 = (a % 2) ^^^ (b % 2) := by
  have : ∀ x y : Fin 2, (x.val + y.val) % 2 = x.val ^^^ y.val := by decide
  have := this ⟨a % 2, by omega⟩ ⟨b % 2, by omega⟩
  simp only at this
  omega

theorem par7_xor (m : Nat → Nat) (x y k : Nat) : par7 m (x ^^^ y) k = par7 m x k ^^^ par7 m y k := by
  induction k with
  | zero => simp [par7]
  | succ k ih =>
    have hb : popc 64 ((x ^^^ y) &&& m k) % 2 = (popc 64 (x &&& m k) % 2) ^^^ (popc 64 (y &&& m k) % 2) := by
      rw [Nat.and_xor_distrib_right, popc_xor, bit_xor]
    rw [par7_succ, par7_succ, par7_succ, xor_join k _ _ _ _ (par7_lt m x k) (par7_lt m y k), ih, hb]

theorem xor_cancel (a b c : Nat) : a ^^^ b ^^^ (a ^^^ c) = b ^^^ c := by
  rw [Nat.xor_comm a b, Nat.xor_assoc, ← Nat.xor_assoc a a c, Nat.xor_self, Nat.zero_xor]
theorem xor_four (a b c d : Nat) : a ^^^ b ^^^ (c ^^^ d) = (a ^^^ c) ^^^ (b ^^^ d) := by ac_rfl

/-- The seven bits. -/
def low (x : Nat) : Nat := par7 (fun j => mk j 64) x 7
theorem low_lt (x : Nat) : low x < 128 := par7_lt _ x 7
theorem low_xor (x y : Nat) : low (x ^^^ y) = low x ^^^ low y := par7_xor _ x y 7
theorem chk_low (x : Nat) : chk x = low x + (popc 64 x + popc 8 (low x)) % 2 * 128 := rfl

theorem chk_and (x : Nat) : chk x &&& 127 = low x := by
  have h := low_lt x
  rw [show (127 : Nat) = 2 ^ 7 - 1 from rfl, Nat.and_two_pow_sub_one_eq_mod, chk_low]
  omega

theorem popc8_top : ∀ a : Fin 128, ∀ b : Fin 2, popc 8 (a.val + b.val * 128) = popc 8 a.val + b.val := by decide +kernel

theorem chk_even (x : Nat) : (popc 64 x + popc 8 (chk x)) % 2 = 0 := by
  have := popc8_top ⟨low x, low_lt x⟩ ⟨(popc 64 x + popc 8 (low x)) % 2, by omega⟩
  simp only at this
  rw [chk_low, this]
  omega

/-- An error: e in the word, f in its check. -/
theorem synd_err (x e f : Nat) : synd (x ^^^ e) (chk x ^^^ f) = low e ^^^ (f &&& 127) := by
  unfold synd
  rw [Nat.and_xor_distrib_right, chk_and, Nat.and_xor_distrib_right, chk_and, low_xor]
  exact xor_cancel _ _ _

theorem par_err (x e f : Nat) : (popc 64 (x ^^^ e) + popc 8 (chk x ^^^ f)) % 2 = (popc 64 e + popc 8 f) % 2 := by
  have h1 := popc_xor 64 x e
  have h2 := popc_xor 8 (chk x) f
  have h3 := chk_even x
  omega

/-- The error at place q of a word and its check. -/
def errW (q : Nat) : Nat := if q < 64 then 2 ^ q else 0
def errC (q : Nat) : Nat := if q < 64 then 0 else if q < 72 then 2 ^ (q - 64) else 0

theorem low_bit : ∀ q : Fin 64, low (2 ^ q.val) = plc q.val := by decide +kernel

theorem fix_of_err (x e f : Nat) : fixOf (x ^^^ e) (chk x ^^^ f) = (if (popc 64 e + popc 8 f) % 2 = 0 then (if low e ^^^ (f &&& 127) = 0 then 0 else 100)
    else if popc 8 (low e ^^^ (f &&& 127)) ≤ 1 then 1
    else if 63 < (low e ^^^ (f &&& 127)) - blen (low e ^^^ (f &&& 127)) - 1 then 100
    else 2 + ((low e ^^^ (f &&& 127)) - blen (low e ^^^ (f &&& 127)) - 1)) := by
  unfold fixOf
  rw [synd_err, par_err]

theorem fix_none (x : Nat) : fixOf x (chk x) = 0 := by
  have := fix_of_err x 0 0
  rw [Nat.xor_zero, Nat.xor_zero] at this
  rw [this]
  decide +kernel

theorem one_word : ∀ q : Fin 64, (popc 64 (2 ^ q.val) + popc 8 0) % 2 ≠ 0 ∧ ¬ popc 8 (plc q.val ^^^ (0 &&& 127)) ≤ 1 ∧ (plc q.val ^^^ (0 &&& 127)) - blen (plc q.val ^^^ (0 &&& 127)) - 1 = q.val := by decide +kernel

theorem fix_word (x q : Nat) (hq : q < 64) : fixOf (x ^^^ 2 ^ q) (chk x) = 2 + q := by
  have := fix_of_err x (2 ^ q) 0
  rw [Nat.xor_zero] at this
  rw [this]
  have hl := low_bit ⟨q, hq⟩
  have ho := one_word ⟨q, hq⟩
  simp only at hl ho
  rw [hl, if_neg ho.1, if_neg ho.2.1, ho.2.2, if_neg (by omega)]

theorem one_check : ∀ q : Fin 8, (popc 64 0 + popc 8 (2 ^ q.val)) % 2 ≠ 0 ∧ popc 8 (low 0 ^^^ (2 ^ q.val &&& 127)) ≤ 1 := by decide +kernel

theorem fix_check1 (x q : Nat) (hq : q < 8) : fixOf x (chk x ^^^ 2 ^ q) = 1 := by
  have := fix_of_err x 0 (2 ^ q)
  rw [Nat.xor_zero] at this
  rw [this]
  have ho := one_check ⟨q, hq⟩
  simp only at ho
  rw [if_neg ho.1, if_pos ho.2]

/-- What a place adds to the seven bits. -/
def placeS (q : Nat) : Nat := if q < 64 then plc q else if q < 71 then 2 ^ (q - 64) else 0
theorem place_sum : ∀ q : Fin 72, low (errW q.val) ^^^ (errC q.val &&& 127) = placeS q.val ∧ (popc 64 (errW q.val) + popc 8 (errC q.val)) % 2 = 1 := by decide +kernel
theorem place_inj : ∀ q r : Fin 72, placeS q.val ^^^ placeS r.val = 0 → q = r := by decide +kernel

theorem fix_two (x q r : Nat) (hq : q < 72) (hr : r < 72) (hne : q ≠ r) : fixOf (x ^^^ errW q ^^^ errW r) (chk x ^^^ errC q ^^^ errC r) = 100 := by
  rw [Nat.xor_assoc, Nat.xor_assoc, fix_of_err]
  obtain ⟨h1, h2⟩ := place_sum ⟨q, hq⟩
  obtain ⟨h3, h4⟩ := place_sum ⟨r, hr⟩
  simp only at h1 h2 h3 h4
  have hp : (popc 64 (errW q ^^^ errW r) + popc 8 (errC q ^^^ errC r)) % 2 = 0 := by
    have a := popc_xor 64 (errW q) (errW r)
    have b := popc_xor 8 (errC q) (errC r)
    omega
  rw [if_pos hp, low_xor, Nat.and_xor_distrib_right]
  have hs : low (errW q) ^^^ low (errW r) ^^^ ((errC q &&& 127) ^^^ (errC r &&& 127)) = placeS q ^^^ placeS r := by
    rw [← h1, ← h3]; exact xor_four _ _ _ _
  rw [hs, if_neg]
  intro h
  have := place_inj ⟨q, hq⟩ ⟨r, hr⟩ h
  exact hne (by simpa using this)

end Go.Proofs.Ytlaipigilikmbaa.Ham
