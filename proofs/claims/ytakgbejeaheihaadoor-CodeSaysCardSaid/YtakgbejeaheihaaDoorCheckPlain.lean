/- Plain: a check byte bit by bit; which turned bit a word's check byte tells. No program here. -/
import Derived.Test.YtakgbejeaheihaaDoorHamLists
namespace Go.Proofs.YtakgbejeaheihaaDoor.CheckP
open Pop PlacesW WordW ProtectW MendW Ham

theorem bit_le : ∀ (l : List UInt8) (i : Nat), i < 8 * l.length → (le l / 2 ^ i) % 2 = ((l.getD (i / 8) 0).toNat / 2 ^ (i % 8)) % 2 := by
  intro l
  induction l with
  | nil => intro i h; simp at h
  | cons b t ih =>
    intro i h
    have hb := b.toNat_lt
    by_cases h8 : i < 8
    · have hi : i = 0 ∨ i = 1 ∨ i = 2 ∨ i = 3 ∨ i = 4 ∨ i = 5 ∨ i = 6 ∨ i = 7 := by omega
      rcases hi with rfl | rfl | rfl | rfl | rfl | rfl | rfl | rfl <;> simp [le] <;> omega
    · obtain ⟨j, rfl⟩ : ∃ j, i = j + 8 := ⟨i - 8, by omega⟩
      have h1 := ih j (by simp at h; omega)
      rw [show (j + 8) / 8 = j / 8 + 1 by omega, show (j + 8) % 8 = j % 8 by omega, List.getD_cons_succ, ← h1, Nat.pow_add, Nat.mul_comm, ← Nat.div_div_eq_div_mul]
      congr 2
      simp only [le]
      omega

theorem popc_succ (i x : Nat) : popc (i + 1) x = popc i x + (x / 2 ^ i) % 2 := by
  rw [popc_add i 1 x]
  simp [popc]

theorem mod_succ (x i : Nat) : x % 2 ^ (i + 1) = x % 2 ^ i ^^^ ((x / 2 ^ i) % 2 * 2 ^ i) := by
  have h1 : x % 2 ^ (i + 1) = x % 2 ^ i + (x / 2 ^ i) % 2 * 2 ^ i := by rw [Nat.pow_succ, Nat.mod_mul, Nat.mul_comm]
  have h2 : x % 2 ^ i < 2 ^ i := Nat.mod_lt _ (Nat.two_pow_pos i)
  have h3 := xor_join i (x % 2 ^ i) 0 0 ((x / 2 ^ i) % 2) h2 (Nat.two_pow_pos i)
  simp only [Nat.zero_mul, Nat.add_zero, Nat.zero_add, Nat.xor_zero, Nat.zero_xor] at h3
  rw [h1, h3]

/-- Bit i brings its place into the sum. -/
theorem low_step (x i : Nat) (hi : i < 64) : low (x % 2 ^ (i + 1)) = if (x / 2 ^ i) % 2 = 1 then low (x % 2 ^ i) ^^^ plc i else low (x % 2 ^ i) := by
  rw [mod_succ, low_xor]
  by_cases h : (x / 2 ^ i) % 2 = 1
  · rw [if_pos h, h, Nat.one_mul, low_bit ⟨i, hi⟩]
  · rw [if_neg h, show (x / 2 ^ i) % 2 = 0 by omega, Nat.zero_mul]
    have : low 0 = 0 := by decide +kernel
    rw [this, Nat.xor_zero]

theorem popc_seven : ∀ s : Fin 128, popc 8 s.val = popc 7 s.val := by decide +kernel

/-- What the places' loop passes: how many of 3 .. p are no powers of two, less one. -/
def nf : Nat → Int
  | 0 => -1
  | p + 1 => nf p + (if (p + 1) &&& p = 0 then 0 else 1)
theorem nf_table : ∀ i : Fin 64, ∀ p : Fin 72, 2 ≤ p.val → ((nf p.val < (i.val : Int) → p.val < plc i.val) ∧ ((i.val : Int) ≤ nf p.val → plc i.val ≤ p.val)) := by decide +kernel
theorem nf_two : nf 2 = -1 := by decide

/-- The check byte of a word with bit j turned. -/
def dif (j : Nat) : Nat := chk (2 ^ j)
theorem fix_f_table : ∀ f : Fin 256, fixOf (0 ^^^ 0) (chk 0 ^^^ f.val) = (if f.val = 0 then 0 else if f.val &&& (f.val - 1) = 0 then 1 else match (List.range 64).find? (fun j => dif j == f.val) with | some j => 2 + j | none => 100) := by decide +kernel
theorem fix_f (x f : Nat) (hf : f < 256) : fixOf x (chk x ^^^ f) = (if f = 0 then 0 else if f &&& (f - 1) = 0 then 1 else match (List.range 64).find? (fun j => dif j == f) with | some j => 2 + j | none => 100) := by
  have h1 := fix_of_err x 0 f
  have h2 := fix_of_err 0 0 f
  rw [Nat.xor_zero] at h1
  rw [h1, ← h2]
  exact fix_f_table ⟨f, hf⟩

theorem par_sum {a b c d e f : Nat} (h1 : a % 2 = (b + c) % 2) (h2 : d % 2 = (e + f) % 2) : (a + d) % 2 = (b + e + (c + f)) % 2 := by omega
theorem chk_xor (x y : Nat) : chk (x ^^^ y) = chk x ^^^ chk y := by
  have hx := popc_xor 64 x y
  have h8 := popc_xor 8 (low x) (low y)
  have hs := par_sum hx h8
  rw [chk_low, chk_low, chk_low, low_xor, xor_join 7 (low x) _ (low y) _ (low_lt x) (low_lt y), ← bit_xor, ← hs]
theorem chk_lt2 (x : Nat) : chk x < 256 := by
  rw [chk_low]
  have := low_lt x
  omega
theorem dif_lt (j : Nat) : dif j < 256 := chk_lt2 _
theorem xor_lt {a b : Nat} (ha : a < 256) (hb : b < 256) : a ^^^ b < 256 := Nat.xor_lt_two_pow (n := 8) ha hb
theorem xor_eq_iff (a b c : Nat) : a ^^^ b = c ↔ a ^^^ c = b := by
  constructor
  · rintro rfl; rw [← Nat.xor_assoc, Nat.xor_self, Nat.zero_xor]
  · rintro rfl; rw [← Nat.xor_assoc, Nat.xor_self, Nat.zero_xor]

/-- What a word and its check byte ask for, told by trial. -/
theorem fix_told (x c : Nat) (hc : c < 256) : fixOf x c = (if chk x ^^^ c = 0 then 0 else if (chk x ^^^ c) &&& ((chk x ^^^ c) - 1) = 0 then 1 else match (List.range 64).find? (fun j => chk (x ^^^ 2 ^ j) == c) with | some j => 2 + j | none => 100) := by
  have h := fix_f x (chk x ^^^ c) (xor_lt (chk_lt2 x) hc)
  rw [← Nat.xor_assoc, Nat.xor_self, Nat.zero_xor] at h
  rw [h]
  have e : (fun j => dif j == chk x ^^^ c) = (fun j => chk (x ^^^ 2 ^ j) == c) := by
    funext j
    rw [chk_xor]
    unfold dif
    rw [Bool.eq_iff_iff, beq_iff_eq, beq_iff_eq]
    constructor
    · intro h; rw [h, ← Nat.xor_assoc, Nat.xor_self, Nat.zero_xor]
    · intro h; rw [← h, ← Nat.xor_assoc, Nat.xor_self, Nat.zero_xor]
  rw [e]
end Go.Proofs.YtakgbejeaheihaaDoor.CheckP
