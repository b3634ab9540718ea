/- Plain: counting the ones of a number, as the library's text does it for 64 bits, and bit by bit. No program here. -/
namespace Go.Proofs.YtakgbejeaheihaaDoor.Pop

/-- The ones among the n lowest bits. -/
def popc : Nat → Nat → Nat
  | 0, _ => 0
  | n + 1, x => x % 2 + popc n (x / 2)

theorem popc_le (n x : Nat) : popc n x ≤ n := by
  induction n generalizing x with
  | zero => simp [popc]
  | succ n ih => have := ih (x / 2); simp only [popc]; omega

theorem popc_add (m n x : Nat) : popc (m + n) x = popc m x + popc n (x / 2 ^ m) := by
  induction m generalizing x with
  | zero => simp [popc]
  | succ m ih =>
    rw [show m + 1 + n = (m + n) + 1 from by omega]
    simp only [popc]
    rw [ih, Nat.pow_succ, Nat.mul_comm (2 ^ m) 2, ← Nat.div_div_eq_div_mul]
    omega

theorem popc_mod (n x : Nat) : popc n (x % 2 ^ n) = popc n x := by
  induction n generalizing x with
  | zero => rfl
  | succ n ih =>
    simp only [popc]
    rw [Nat.pow_succ, Nat.mul_comm (2 ^ n) 2]
    have h1 : x % (2 * 2 ^ n) % 2 = x % 2 := Nat.mod_mul_right_mod x 2 (2 ^ n)
    have h2 : x % (2 * 2 ^ n) / 2 = x / 2 % 2 ^ n := Nat.mod_mul_right_div_self x 2 (2 ^ n)
    rw [h1, h2, ih]

/-- The number of ones of an exclusive or has the parity of the sum. -/
theorem popc_xor (n x y : Nat) : popc n (x ^^^ y) % 2 = (popc n x + popc n y) % 2 := by
  induction n generalizing x y with
  | zero => rfl
  | succ n ih =>
    simp only [popc]
    have h1 : (x ^^^ y) / 2 = x / 2 ^^^ y / 2 := by simpa using Nat.xor_div_two_pow (a := x) (b := y) (n := 1)
    have h2 : (x ^^^ y) % 2 = (x % 2 + y % 2) % 2 := by
      have := Nat.xor_mod_two_pow (a := x) (b := y) (n := 1)
      simp only [Nat.pow_one] at this
      rw [this]
      rcases Nat.mod_two_eq_zero_or_one x with h | h <;> rcases Nat.mod_two_eq_zero_or_one y with h' | h' <;> rw [h, h'] <;> rfl
    rw [h1, h2]
    have := ih (x / 2) (y / 2)
    omega

/-! The sum by halves, over a number of bytes. -/

def m55 : Nat → Nat | 0 => 0 | n + 1 => 85 + 256 * m55 n
def m33 : Nat → Nat | 0 => 0 | n + 1 => 51 + 256 * m33 n
def m0f : Nat → Nat | 0 => 0 | n + 1 => 15 + 256 * m0f n

def s1 (n x : Nat) : Nat := ((x / 2) &&& m55 n) + (x &&& m55 n)
def s2 (n x : Nat) : Nat := ((x / 4) &&& m33 n) + (x &&& m33 n)
def s3 (n x : Nat) : Nat := (x / 16 + x) &&& m0f n

/-- The ones of each byte, as bytes. -/
def counts : Nat → Nat → Nat
  | 0, _ => 0
  | n + 1, x => popc 8 (x % 256) + 256 * counts n (x / 256)

theorem and_split (b m y p : Nat) (hb : b < 256) (hm : m < 256) : (b + 256 * y) &&& (m + 256 * p) = (b &&& m) + 256 * (y &&& p) := by
  have h1 : ((b + 256 * y) &&& (m + 256 * p)) / 2 ^ 8 = y &&& p := by
    rw [Nat.and_div_two_pow]; congr 1 <;> omega
  have h2 : ((b + 256 * y) &&& (m + 256 * p)) % 2 ^ 8 = b &&& m := by
    rw [Nat.and_mod_two_pow]; congr 1 <;> omega
  have := Nat.div_add_mod ((b + 256 * y) &&& (m + 256 * p)) (2 ^ 8)
  rw [h1, h2] at this
  omega

theorem byte_facts : ∀ b, b < 256 → (∀ q, q < 2 → ((b / 2 + 128 * q) &&& 85) + (b &&& 85) < 256 ∧ ((b / 2 + 128 * q) &&& 85) = ((b / 2) &&& 85)) ∧
    (∀ q, q < 4 → ((b / 4 + 64 * q) &&& 51) = ((b / 4) &&& 51)) := by decide +kernel

theorem byte_sum : ∀ b, b < 256 → (∀ q, q < 16 → let x1 := ((b / 2) &&& 85) + (b &&& 85); let x2 := ((x1 / 4) &&& 51) + (x1 &&& 51); x1 < 256 ∧ x2 < 256 ∧ x2 / 16 + 16 * 4 + x2 < 256 ∧ x2 % 16 ≤ 4 ∧ x2 / 16 ≤ 4 ∧
    (q ≤ 4 → (x2 / 16 + 16 * q + x2) &&& 15 = popc 8 b)) := by decide +kernel

theorem s1_split (n b y : Nat) (hb : b < 256) : s1 (n + 1) (b + 256 * y) = (((b / 2) &&& 85) + (b &&& 85)) + 256 * s1 n y := by
  unfold s1
  have e : (b + 256 * y) / 2 = (b / 2 + 128 * (y % 2)) + 256 * (y / 2) := by omega
  have h := ((byte_facts b hb).1 (y % 2) (by omega)).2
  rw [e, m55, and_split _ _ _ _ (by omega) (by omega), and_split _ _ _ _ hb (by omega), h]
  omega

theorem s2_split (n b y : Nat) (hb : b < 256) : s2 (n + 1) (b + 256 * y) = (((b / 4) &&& 51) + (b &&& 51)) + 256 * s2 n y := by
  unfold s2
  have e : (b + 256 * y) / 4 = (b / 4 + 64 * (y % 4)) + 256 * (y / 4) := by omega
  have h := (byte_facts b hb).2 (y % 4) (by omega)
  rw [e, m33, and_split _ _ _ _ (by omega) (by omega), and_split _ _ _ _ hb (by omega), h]
  omega

/-- The low half byte of every byte is at most four, and so on. -/
theorem s2_low (n x : Nat) : s2 n (s1 n x) % 16 ≤ 4 := by
  cases n with
  | zero => simp [s2, s1, m33, m55]
  | succ n =>
    have e : x = x % 256 + 256 * (x / 256) := by omega
    rw [e, s1_split _ _ _ (by omega)]
    have hb := byte_sum (x % 256) (by omega) 0 (by omega)
    simp only at hb
    rw [s2_split _ _ _ hb.1]
    have := hb.2.2.2.1
    omega

theorem s3_counts (n x : Nat) : s3 n (s2 n (s1 n x)) = counts n x := by
  induction n generalizing x with
  | zero => simp [s3, m0f, counts]
  | succ n ih =>
    have hlow := s2_low n (x / 256)
    have ih' := ih (x / 256)
    have e : x = x % 256 + 256 * (x / 256) := by omega
    have hr : counts (n + 1) x = popc 8 (x % 256) + 256 * counts n (x / 256) := rfl
    rw [hr, ← ih']
    conv => lhs; rw [e]
    rw [s1_split _ _ _ (by omega)]
    have hb := byte_sum (x % 256) (by omega) (s2 n (s1 n (x / 256)) % 16) (by omega)
    simp only at hb
    rw [s2_split _ _ _ hb.1]
    generalize hx2 : ((((x % 256) / 2 &&& 85) + (x % 256 &&& 85)) / 4 &&& 51) + ((((x % 256) / 2 &&& 85) + (x % 256 &&& 85)) &&& 51) = x2 at hb ⊢
    generalize s2 n (s1 n (x / 256)) = z at hlow hb ⊢
    obtain ⟨_, h2, h3, h4, h5, h6⟩ := hb
    unfold s3
    have e2 : (x2 + 256 * z) / 16 + (x2 + 256 * z) = (x2 / 16 + 16 * (z % 16) + x2) + 256 * (z / 16 + z) := by omega
    rw [e2, m0f, and_split _ _ _ _ (by omega) (by omega), h6 (by omega)]

theorem counts_split (n x : Nat) : ∃ c, c ≤ 8 ∧ counts (n + 1) x = c + 256 * counts n (x / 256) ∧ c = popc 8 x :=
  ⟨popc 8 (x % 256), popc_le 8 _, rfl, popc_mod 8 x⟩

/-- The library's count of a number of 64 bits. -/
def swar (x : Nat) : Nat :=
  let x3 := s3 8 (s2 8 (s1 8 x))
  let x4 := x3 + x3 / 256
  let x5 := x4 + x4 / 65536
  let x6 := x5 + x5 / 4294967296
  x6 % 128

theorem popc64 (x : Nat) : popc 64 x = popc 8 x + (popc 8 (x / 256) + (popc 8 (x / 256 / 256) + (popc 8 (x / 256 / 256 / 256) + (popc 8 (x / 256 / 256 / 256 / 256) + (popc 8 (x / 256 / 256 / 256 / 256 / 256) +
    (popc 8 (x / 256 / 256 / 256 / 256 / 256 / 256) + popc 8 (x / 256 / 256 / 256 / 256 / 256 / 256 / 256))))))) := by
  have h := fun n x => popc_add 8 n x
  simp only [show (2 : Nat) ^ 8 = 256 from rfl] at h
  rw [show 64 = 8 + 56 from rfl, h, show 56 = 8 + 48 from rfl, h, show 48 = 8 + 40 from rfl, h, show 40 = 8 + 32 from rfl, h, show 32 = 8 + 24 from rfl, h, show 24 = 8 + 16 from rfl, h, show 16 = 8 + 8 from rfl, h]

theorem swar_popc (x : Nat) : swar x = popc 64 x := by
  unfold swar
  simp only [s3_counts]
  rw [popc64]
  obtain ⟨c0, h0, e0, f0⟩ := counts_split 7 x
  obtain ⟨c1, h1, e1, f1⟩ := counts_split 6 (x / 256)
  obtain ⟨c2, h2, e2, f2⟩ := counts_split 5 (x / 256 / 256)
  obtain ⟨c3, h3, e3, f3⟩ := counts_split 4 (x / 256 / 256 / 256)
  obtain ⟨c4, h4, e4, f4⟩ := counts_split 3 (x / 256 / 256 / 256 / 256)
  obtain ⟨c5, h5, e5, f5⟩ := counts_split 2 (x / 256 / 256 / 256 / 256 / 256)
  obtain ⟨c6, h6, e6, f6⟩ := counts_split 1 (x / 256 / 256 / 256 / 256 / 256 / 256)
  obtain ⟨c7, h7, e7, f7⟩ := counts_split 0 (x / 256 / 256 / 256 / 256 / 256 / 256 / 256)
  rw [← f0, ← f1, ← f2, ← f3, ← f4, ← f5, ← f6, ← f7, e0, e1, e2, e3, e4, e5, e6, e7]
  simp only [counts]
  clear f0 f1 f2 f3 f4 f5 f6 f7 e0 e1 e2 e3 e4 e5 e6 e7
  have d3 : c0 + 256 * (c1 + 256 * (c2 + 256 * (c3 + 256 * (c4 + 256 * (c5 + 256 * (c6 + 256 * (c7 + 256 * 0))))))) = c0 + 256 * (c1 + 256 * (c2 + 256 * (c3 + 256 * (c4 + 256 * (c5 + 256 * (c6 + 256 * c7)))))) := by omega
  rw [d3]
  clear d3
  have d4 : (c0 + 256 * (c1 + 256 * (c2 + 256 * (c3 + 256 * (c4 + 256 * (c5 + 256 * (c6 + 256 * c7))))))) / 256 = c1 + 256 * (c2 + 256 * (c3 + 256 * (c4 + 256 * (c5 + 256 * (c6 + 256 * c7))))) := by omega
  rw [d4]
  clear d4
  have d5 : ∀ a b c d e f g h : Nat, a ≤ 16 → b ≤ 16 → (a + 256 * (b + 256 * (c + 256 * (d + 256 * (e + 256 * (f + 256 * (g + 256 * h))))))) / 65536 = c + 256 * (d + 256 * (e + 256 * (f + 256 * (g + 256 * h)))) := by intros; omega
  have d6 : ∀ a b c d e f g h : Nat, a ≤ 32 → b ≤ 32 → c ≤ 32 → d ≤ 32 → (a + 256 * (b + 256 * (c + 256 * (d + 256 * (e + 256 * (f + 256 * (g + 256 * h))))))) / 4294967296 = e + 256 * (f + 256 * (g + 256 * h)) := by intros; omega
  have k4 : (c0 + 256 * (c1 + 256 * (c2 + 256 * (c3 + 256 * (c4 + 256 * (c5 + 256 * (c6 + 256 * c7))))))) + (c1 + 256 * (c2 + 256 * (c3 + 256 * (c4 + 256 * (c5 + 256 * (c6 + 256 * c7)))))) =
      (c0 + c1) + 256 * ((c1 + c2) + 256 * ((c2 + c3) + 256 * ((c3 + c4) + 256 * ((c4 + c5) + 256 * ((c5 + c6) + 256 * ((c6 + c7) + 256 * c7)))))) := by omega
  rw [k4, d5 _ _ _ _ _ _ _ _ (by omega) (by omega)]
  clear k4 d5
  have k5 : (c0 + c1) + 256 * ((c1 + c2) + 256 * ((c2 + c3) + 256 * ((c3 + c4) + 256 * ((c4 + c5) + 256 * ((c5 + c6) + 256 * ((c6 + c7) + 256 * c7)))))) + ((c2 + c3) + 256 * ((c3 + c4) + 256 * ((c4 + c5) + 256 * ((c5 + c6) + 256 * ((c6 + c7) + 256 * c7))))) =
      (c0 + c1 + (c2 + c3)) + 256 * ((c1 + c2 + (c3 + c4)) + 256 * ((c2 + c3 + (c4 + c5)) + 256 * ((c3 + c4 + (c5 + c6)) + 256 * ((c4 + c5 + (c6 + c7)) + 256 * ((c5 + c6 + c7) + 256 * ((c6 + c7) + 256 * c7)))))) := by omega
  rw [k5, d6 _ _ _ _ _ _ _ _ (by omega) (by omega) (by omega) (by omega)]
  clear k5 d6
  omega

end Go.Proofs.YtakgbejeaheihaaDoor.Pop
