/- Plain: numbers as bytes, the lowest first; lists laid into lists. No program here. -/
namespace Go.Proofs.YtndhmdengadmjaaDoor

/-- The n lowest bytes of a number. -/
def lowB (x n : Nat) : List UInt8 := (List.range n).map fun i => UInt8.ofNat (x / 256 ^ i)
theorem lowB_length (x n : Nat) : (lowB x n).length = n := by simp [lowB]
theorem lowB_zero (x : Nat) : lowB x 0 = [] := rfl
theorem lowB_succ (x n : Nat) : lowB x (n + 1) = lowB x n ++ [UInt8.ofNat (x / 256 ^ n)] := by simp [lowB, List.range_succ]

/-- r laid over l from place off on. -/
def splL (l : List UInt8) (off : Nat) (r : List UInt8) : List UInt8 := l.take off ++ (r ++ l.drop (off + r.length))
theorem splL_length (l : List UInt8) (off : Nat) (r : List UInt8) (h : off + r.length ≤ l.length) : (splL l off r).length = l.length := by simp [splL]; omega
theorem splL_nil (l : List UInt8) (off : Nat) : splL l off [] = l := by simp [splL]
theorem splL_snoc (l : List UInt8) (off : Nat) (r : List UInt8) (x : UInt8) (h : off + r.length < l.length) : splL l off (r ++ [x]) = (splL l off r).set (off + r.length) x := by
  unfold splL
  have e1 : (l.take off).length = off := by simp; omega
  rw [List.set_append_right _ _ (by omega), e1, Nat.add_sub_cancel_left, List.set_append_right _ _ (Nat.le_refl _), Nat.sub_self]
  rw [List.drop_eq_getElem_cons h]
  simp [Nat.add_assoc]
theorem splL_one (l : List UInt8) (off : Nat) (x : UInt8) (h : off < l.length) : splL l off [x] = l.set off x := by
  have := splL_snoc l off [] x (by simpa using h)
  simpa [splL_nil] using this
end Go.Proofs.YtndhmdengadmjaaDoor
