/- Plain: a frame as a page, and what is read back. No program here. -/
import Derived.Test.YtndhmdengadmjaaDoorPutPlain
import Derived.Test.YtndhmdengadmjaaDoorCrcPlain
set_option linter.unusedVariables false
namespace Go.Proofs.YtndhmdengadmjaaDoor.Fram
open Crc

/-- The number whose bytes these are, the lowest first. -/
def leN : List UInt8 → Nat
  | [] => 0
  | b :: t => b.toNat + 256 * leN t

theorem leN_lt (l : List UInt8) : leN l < 256 ^ l.length := by
  induction l with
  | nil => simp [leN]
  | cons b t ih =>
    have := b.toNat_lt
    simp only [leN, List.length_cons, Nat.pow_succ]
    omega

theorem leN_snoc (l : List UInt8) (b : UInt8) : leN (l ++ [b]) = leN l + b.toNat * 256 ^ l.length := by
  induction l with
  | nil => simp [leN]
  | cons c t ih =>
    simp only [List.cons_append, leN, ih, List.length_cons, Nat.pow_succ]
    rw [Nat.mul_add, Nat.add_assoc]
    congr 2
    rw [Nat.mul_comm (256 ^ t.length) 256, ← Nat.mul_assoc, ← Nat.mul_assoc, Nat.mul_comm 256]

theorem leN_lowB (x n : Nat) : leN (lowB x n) = x % 256 ^ n := by
  induction n with
  | zero => simp [lowB, leN, Nat.mod_one]
  | succ n ih =>
    rw [lowB_succ, leN_snoc, ih, lowB_length, UInt8.toNat_ofNat']
    show x % 256 ^ n + (x / 256 ^ n % 256) * 256 ^ n = x % 256 ^ (n + 1)
    have e : (256 : Nat) ^ (n + 1) = 256 ^ n * 256 := rfl
    rw [e, Nat.mod_mul, Nat.mul_comm (x / 256 ^ n % 256)]

/-- Lists of as many bytes of one number are one. -/
theorem lowB_leN (l : List UInt8) : lowB (leN l) l.length = l := by
  induction l with
  | nil => rfl
  | cons b t ih =>
    have hb := b.toNat_lt
    have h0 : UInt8.ofNat (b.toNat + 256 * leN t) = b := by
      apply UInt8.toNat_inj.1
      rw [UInt8.toNat_ofNat']
      omega
    have hrec : ∀ x n, lowB x (n + 1) = UInt8.ofNat x :: lowB (x / 256) n := by
      intro x n
      simp only [lowB, List.range_succ_eq_map, List.map_cons, List.map_map, Nat.pow_zero, Nat.div_one]
      congr 1
      apply List.map_congr_left
      intro i _
      simp only [Function.comp]
      rw [Nat.pow_succ, Nat.mul_comm, ← Nat.div_div_eq_div_mul]
    simp only [leN, List.length_cons]
    rw [hrec, h0, show (b.toNat + 256 * leN t) / 256 = leN t from by omega, ih]

/-- A page: its head, the four bytes of the check sum, the rest. -/
def page (k lba seq : Nat) (sum : List UInt8) (data : List UInt8) (n : Nat) : List UInt8 :=
  [165, UInt8.ofNat k] ++ (lowB lba 4 ++ (lowB seq 8 ++ (lowB data.length 2 ++ (sum ++ (data ++ (List.replicate (n - 21 - data.length) 0 ++ [90]))))))

def pack (n k lba seq : Nat) (data : List UInt8) : List UInt8 :=
  page k lba seq (lowB (crc (page k lba seq [0, 0, 0, 0] data n)).toNat 4) data n

theorem page_length (k lba seq : Nat) (sum data : List UInt8) (n : Nat) (hs : sum.length = 4) (hd : data.length + 21 ≤ n) : (page k lba seq sum data n).length = n := by
  simp [page, lowB_length, hs]; omega

theorem pack_length (n k lba seq : Nat) (data : List UInt8) (hd : data.length + 21 ≤ n) : (pack n k lba seq data).length = n := page_length _ _ _ _ _ _ (lowB_length _ _) hd

/-- One part laid over a list. -/
theorem splL_part (a b c r : List UInt8) (off : Nat) (ho : off = a.length) (h : r.length = b.length) : splL (a ++ (b ++ c)) off r = a ++ (r ++ c) := by
  subst ho
  have e : (a ++ (b ++ c)).drop (a.length + b.length) = c := by rw [← List.append_assoc, List.drop_left' (by simp)]
  unfold splL
  rw [List.take_left' rfl, h, e]

theorem rep_add (a b : Nat) : List.replicate (a + b) (0 : UInt8) = List.replicate a 0 ++ List.replicate b 0 := by
  rw [List.replicate_append_replicate]

/-- What the program lays into a blank page, step by step. -/
def blankP (n k : Nat) : List UInt8 := (((List.replicate n (0 : UInt8)).set 0 165).set 1 (UInt8.ofNat k)).set (n - 1) 90
theorem blankP_eq (n k len : Nat) (hn : len + 21 ≤ n) (h24 : 24 ≤ n) : blankP n k = [165, UInt8.ofNat k] ++ (List.replicate 4 0 ++ (List.replicate 8 0 ++ (List.replicate 2 0 ++ (List.replicate 4 0 ++ (List.replicate len 0 ++ (List.replicate (n - 21 - len) 0 ++ [90])))))) := by
  unfold blankP
  obtain ⟨m, rfl⟩ : ∃ m, n = 2 + (4 + (8 + (2 + (4 + (len + (m + 1)))))) := ⟨n - 21 - len, by omega⟩
  have e : 2 + (4 + (8 + (2 + (4 + (len + (m + 1)))))) - 21 - len = m := by omega
  rw [e]
  have e2 : ((List.replicate (2 + (4 + (8 + (2 + (4 + (len + (m + 1))))))) (0 : UInt8)).set 0 165).set 1 (UInt8.ofNat k) = [165, UInt8.ofNat k] ++ List.replicate (4 + (8 + (2 + (4 + (len + (m + 1)))))) 0 := by
    rw [rep_add]; rfl
  rw [e2]
  have e3 : List.replicate (4 + (8 + (2 + (4 + (len + (m + 1)))))) (0 : UInt8) = List.replicate (4 + (8 + (2 + (4 + (len + m))))) 0 ++ [0] := by
    rw [← List.replicate_succ']
    congr 1
  rw [e3, List.set_append_right _ _ (by simp; omega), List.set_append_right _ _ (by simp; omega)]
  have e4 : 2 + (4 + (8 + (2 + (4 + (len + (m + 1)))))) - 1 - [(165 : UInt8), UInt8.ofNat k].length - (List.replicate (4 + (8 + (2 + (4 + (len + m))))) (0 : UInt8)).length = 0 := by
    simp; omega
  rw [e4]
  simp only [rep_add, List.append_assoc]
  rfl

theorem built (n k lba seq : Nat) (data sum : List UInt8) (hd : data.length + 21 ≤ n) (h24 : 24 ≤ n) (hs : sum.length = 4) :
    splL (splL (splL (splL (splL (blankP n k) 2 (lowB lba 4)) 6 (lowB seq 8)) 14 (lowB data.length 2)) 20 data) 16 sum = page k lba seq sum data n ∧
    splL (splL (splL (splL (blankP n k) 2 (lowB lba 4)) 6 (lowB seq 8)) 14 (lowB data.length 2)) 20 data = page k lba seq [0, 0, 0, 0] data n := by
  have s1 : splL (blankP n k) 2 (lowB lba 4) = [165, UInt8.ofNat k] ++ (lowB lba 4 ++ (List.replicate 8 0 ++ (List.replicate 2 0 ++ (List.replicate 4 0 ++ (List.replicate data.length 0 ++ (List.replicate (n - 21 - data.length) 0 ++ [90])))))) := by
    rw [blankP_eq n k data.length hd h24]
    exact splL_part _ _ _ _ 2 rfl (by simp [lowB_length])
  have s2 : splL (splL (blankP n k) 2 (lowB lba 4)) 6 (lowB seq 8) = ([165, UInt8.ofNat k] ++ lowB lba 4) ++ (lowB seq 8 ++ (List.replicate 2 0 ++ (List.replicate 4 0 ++ (List.replicate data.length 0 ++ (List.replicate (n - 21 - data.length) 0 ++ [90]))))) := by
    rw [s1, ← List.append_assoc]
    exact splL_part _ _ _ _ 6 (by simp [lowB_length]) (by simp [lowB_length])
  have s3 : splL (splL (splL (blankP n k) 2 (lowB lba 4)) 6 (lowB seq 8)) 14 (lowB data.length 2) = (([165, UInt8.ofNat k] ++ lowB lba 4) ++ lowB seq 8) ++ (lowB data.length 2 ++ (List.replicate 4 0 ++ (List.replicate data.length 0 ++ (List.replicate (n - 21 - data.length) 0 ++ [90])))) := by
    rw [s2, ← List.append_assoc ([165, UInt8.ofNat k] ++ lowB lba 4)]
    exact splL_part _ _ _ _ 14 (by simp [lowB_length]) (by simp [lowB_length])
  have s4 : splL (splL (splL (splL (blankP n k) 2 (lowB lba 4)) 6 (lowB seq 8)) 14 (lowB data.length 2)) 20 data = ((([165, UInt8.ofNat k] ++ lowB lba 4) ++ lowB seq 8) ++ lowB data.length 2 ++ List.replicate 4 0) ++ (data ++ (List.replicate (n - 21 - data.length) 0 ++ [90])) := by
    rw [s3, ← List.append_assoc _ (lowB data.length 2), ← List.append_assoc _ (List.replicate 4 0)]
    exact splL_part _ _ _ _ 20 (by simp [lowB_length]) (by simp)
  refine ⟨?_, ?_⟩
  · rw [s4, List.append_assoc _ (List.replicate 4 0)]
    rw [splL_part _ (List.replicate 4 0) _ sum 16 (by simp [lowB_length]) (by simp [hs])]
    simp [page]
  · rw [s4]
    simp [page, List.replicate]

theorem lowB_inj {x y n : Nat} (hx : x < 256 ^ n) (hy : y < 256 ^ n) (h : lowB x n = lowB y n) : x = y := by
  have := congrArg leN h
  rw [leN_lowB, leN_lowB, Nat.mod_eq_of_lt hx, Nat.mod_eq_of_lt hy] at this
  exact this

/-- Unlike frames have unlike pages. -/
theorem pack_inj {n k lba seq k' lba' seq' : Nat} {d d' : List UInt8} (hk : k < 256) (hk' : k' < 256) (hl : lba < 4294967296) (hl' : lba' < 4294967296) (hs : seq < 18446744073709551616) (hs' : seq' < 18446744073709551616) (hd : d.length < 65536) (hd' : d'.length < 65536)
    (h : pack n k lba seq d = pack n k' lba' seq' d') : k = k' ∧ lba = lba' ∧ seq = seq' ∧ d = d' := by
  unfold pack page at h
  obtain ⟨h1, h⟩ := List.append_inj h rfl
  obtain ⟨h2, h⟩ := List.append_inj h (by rw [lowB_length, lowB_length])
  obtain ⟨h3, h⟩ := List.append_inj h (by rw [lowB_length, lowB_length])
  obtain ⟨h4, h⟩ := List.append_inj h (by rw [lowB_length, lowB_length])
  obtain ⟨_, h⟩ := List.append_inj h (by rw [lowB_length, lowB_length])
  have e4 := lowB_inj (by omega) (by omega) h4
  obtain ⟨h5, _⟩ := List.append_inj h e4
  have e1 : k = k' := by
    have : UInt8.ofNat k = UInt8.ofNat k' := by simpa using h1
    have := congrArg UInt8.toNat this
    rw [UInt8.toNat_ofNat', UInt8.toNat_ofNat'] at this
    omega
  exact ⟨e1, lowB_inj (by omega) (by omega) h2, lowB_inj (by omega) (by omega) h3, h5⟩
end Go.Proofs.YtndhmdengadmjaaDoor.Fram
