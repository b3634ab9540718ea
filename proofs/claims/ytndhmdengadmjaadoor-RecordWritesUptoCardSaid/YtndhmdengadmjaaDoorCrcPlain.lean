/- Plain: the check sum over a 32-bit register, and what holds of it. No program here. -/
namespace Go.Proofs.YtndhmdengadmjaaDoor.Crc

/-- One step of the register. -/
def bitStep (c : BitVec 32) : BitVec 32 := (c >>> 1) ^^^ (if c.getLsbD 0 then 0xEDB88320#32 else 0#32)

def bitSteps : Nat → BitVec 32 → BitVec 32
  | 0, c => c
  | k + 1, c => bitStep (bitSteps k c)

/-- One byte. -/
def byteStep (c : BitVec 32) (b : UInt8) : BitVec 32 := bitSteps 8 (c ^^^ BitVec.ofNat 32 b.toNat)

def reg (c : BitVec 32) (l : List UInt8) : BitVec 32 := l.foldl byteStep c

/-- The check sum of a list of bytes. -/
def crc (l : List UInt8) : BitVec 32 := ~~~ (reg 0xFFFFFFFF#32 l)

theorem bitStep_xor (a b : BitVec 32) : bitStep (a ^^^ b) = bitStep a ^^^ bitStep b := by
  unfold bitStep
  simp only [BitVec.getLsbD_xor, BitVec.ushiftRight_xor_distrib]
  cases a.getLsbD 0 <;> cases b.getLsbD 0
  · simp
  · simp; ac_rfl
  · simp; ac_rfl
  · have : (a >>> 1 ^^^ 3988292384#32) ^^^ (b >>> 1 ^^^ 3988292384#32) = (a >>> 1 ^^^ b >>> 1) ^^^ (3988292384#32 ^^^ 3988292384#32) := by ac_rfl
    simp [this]

theorem bitStep_zero : bitStep 0#32 = 0#32 := by decide

theorem bitStep_eq_zero {c : BitVec 32} (h : bitStep c = 0#32) : c = 0#32 := by
  unfold bitStep at h
  cases h0 : c.getLsbD 0
  · simp only [h0, Bool.false_eq_true, if_false, BitVec.xor_zero] at h
    apply BitVec.eq_of_getLsbD_eq
    intro i hi
    match i with
    | 0 => simpa using h0
    | i + 1 =>
      have := congrArg (fun x => x.getLsbD i) h
      simpa [BitVec.getLsbD_ushiftRight, Nat.add_comm] using this
  · simp only [h0, if_true] at h
    have := congrArg (fun x => x.getLsbD 31) h
    have e1 : (0xEDB88320#32).getLsbD 31 = true := by decide
    simp only [BitVec.getLsbD_xor, e1] at this
    simp at this

theorem bitSteps_xor (k : Nat) (a b : BitVec 32) : bitSteps k (a ^^^ b) = bitSteps k a ^^^ bitSteps k b := by
  induction k with
  | zero => rfl
  | succ k ih => simp only [bitSteps, ih, bitStep_xor]

theorem bitSteps_zero (k : Nat) : bitSteps k 0#32 = 0#32 := by
  induction k with
  | zero => rfl
  | succ k ih => simp only [bitSteps, ih, bitStep_zero]

theorem bitSteps_eq_zero (k : Nat) {c : BitVec 32} (h : bitSteps k c = 0#32) : c = 0#32 := by
  induction k with
  | zero => exact h
  | succ k ih => exact ih (bitStep_eq_zero h)

/-- The register with no input mixed in. -/
theorem byteStep_xor (a b : BitVec 32) (x y : UInt8) : byteStep (a ^^^ b) (x ^^^ y) = byteStep a x ^^^ byteStep b y := by
  unfold byteStep
  rw [← bitSteps_xor]
  congr 1
  have : BitVec.ofNat 32 (x ^^^ y).toNat = BitVec.ofNat 32 x.toNat ^^^ BitVec.ofNat 32 y.toNat := by
    rw [UInt8.toNat_xor]
    apply BitVec.eq_of_toNat_eq
    have h1 := x.toNat_lt
    have h2 := y.toNat_lt
    have h3 : x.toNat ^^^ y.toNat < 2 ^ 8 := Nat.xor_lt_two_pow h1 h2
    simp only [BitVec.toNat_ofNat, BitVec.toNat_xor]
    rw [Nat.mod_eq_of_lt (by omega), Nat.mod_eq_of_lt (by omega), Nat.mod_eq_of_lt (by omega)]
  rw [this]
  ac_rfl

theorem byteStep_zero : byteStep 0#32 0 = 0#32 := by
  unfold byteStep
  simp [bitSteps_zero]

theorem reg_xor (l m : List UInt8) (h : l.length = m.length) (a b : BitVec 32) : reg (a ^^^ b) (List.zipWith (· ^^^ ·) l m) = reg a l ^^^ reg b m := by
  induction l generalizing m a b with
  | nil => cases m with
    | nil => rfl
    | cons _ _ => simp at h
  | cons x l ih => cases m with
    | nil => simp at h
    | cons y m =>
      simp only [List.zipWith_cons_cons, reg, List.foldl_cons]
      rw [byteStep_xor]
      exact ih m (by simpa using h) _ _

theorem reg_append (c : BitVec 32) (l m : List UInt8) : reg c (l ++ m) = reg (reg c l) m := by simp [reg]

theorem reg_snoc (c : BitVec 32) (l : List UInt8) (x : UInt8) : reg c (l ++ [x]) = byteStep (reg c l) x := by simp [reg]

/-- A register that differs from none stays so whatever zeros come. -/
theorem reg_zeros (n : Nat) {c : BitVec 32} (h : reg c (List.replicate n 0) = 0#32) : c = 0#32 := by
  induction n generalizing c with
  | zero => exact h
  | succ n ih =>
    have := ih (c := byteStep c 0) h
    unfold byteStep at this
    simpa using bitSteps_eq_zero 8 this

theorem reg_zeros_zero (n : Nat) : reg 0#32 (List.replicate n 0) = 0#32 := by
  induction n with
  | zero => rfl
  | succ n ih =>
    show reg (byteStep 0#32 0) (List.replicate n 0) = _
    rw [byteStep_zero, ih]

/-- One byte of a list changed: the check sum changes. -/
theorem crc_set_ne (l : List UInt8) (i : Nat) (hi : i < l.length) (x : UInt8) (hx : x ≠ l[i]) : crc (l.set i x) ≠ crc l := by
  intro h
  unfold crc at h
  have h' : reg 0xFFFFFFFF#32 (l.set i x) = reg 0xFFFFFFFF#32 l := by simpa using congrArg (fun c => ~~~ c) h
  have e1 : l.set i x = l.take i ++ x :: l.drop (i + 1) := by rw [List.set_eq_take_append_cons_drop, if_pos hi]
  have e2 : l = l.take i ++ l[i] :: l.drop (i + 1) := by
    conv => lhs; rw [← List.take_append_drop i l]
    rw [List.drop_eq_getElem_cons hi]
  rw [e1] at h'
  rw [e2, List.take_left' (by simp; omega), List.drop_append] at h'
  simp only [List.length_take, Nat.min_eq_left (Nat.le_of_lt hi)] at h'
  rw [List.drop_of_length_le (by simp; omega), show i + 1 - i = 1 from by omega] at h'
  simp only [List.nil_append, List.drop_succ_cons, List.drop_zero] at h'
  rw [reg_append, reg_append] at h'
  generalize reg 0xFFFFFFFF#32 (l.take i) = c at h'
  generalize l.drop (i + 1) = t at h'
  change reg (byteStep c x) t = reg (byteStep c l[i]) t at h'
  have key := reg_xor t t rfl (byteStep c x) (byteStep c l[i])
  rw [h', BitVec.xor_self] at key
  have ez : List.zipWith (fun a b : UInt8 => a ^^^ b) t t = List.replicate t.length 0 := by
    clear key h'
    induction t with
    | nil => rfl
    | cons a t ih => rw [List.zipWith_cons_cons, ih]; simp [List.replicate_succ]
  rw [ez] at key
  have := reg_zeros _ key
  rw [← byteStep_xor, BitVec.xor_self] at this
  unfold byteStep at this
  have h0 := bitSteps_eq_zero 8 this
  apply hx
  have hn : (x ^^^ l[i]).toNat = 0 := by
    have := congrArg BitVec.toNat h0
    have hlt := (x ^^^ l[i]).toNat_lt
    simp only [BitVec.zero_xor, BitVec.toNat_ofNat] at this
    omega
  have : x ^^^ l[i] = 0 := UInt8.toNat_inj.1 (by simpa using hn)
  have h2 : x ^^^ l[i] ^^^ l[i] = 0 ^^^ l[i] := by rw [this]
  simpa [UInt8.xor_assoc] using h2

end Go.Proofs.YtndhmdengadmjaaDoor.Crc
