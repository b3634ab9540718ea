/- granaryref1.Buffer in memory; the walks of its Find and Add. -/
import Derived.Test.YtndhmdengadmjaaDoorItems
import Derived.Test.YtndhmdengadmjaaDoorStill
set_option linter.unusedVariables false
namespace Go.Proofs.YtndhmdengadmjaaDoor.BufL
open Go.RowKit I64 BufP BufW Items

theorem ritem_info' : (Tryd.prog.info? 77).map (fun i => (i.zero, i.size, i.bytes)) = some (some (.agg #[.int .i64 0, .bool false, .slice none 0 0]), 3, 40) := by kernel_rfl

/-- The slice v of items, from B on; somewhere in its block. -/
def RdI (w : World) (B : Nat) (v : Value) (its : List It) : Prop :=
  ∃ A c, v = .slice A its.length c ∧ its.length ≤ c ∧ ∀ i x, its[i]? = some x → ∃ b off A' c', A = some ⟨b, off, none⟩ ∧ B ≤ b ∧ (∃ cs, Bk w b 77 cs) ∧
    w.cell? ⟨b, off + i * 3, none⟩ = some (.int .i64 x.1) ∧ w.cell? ⟨b, off + i * 3 + 1, none⟩ = some (.bool x.2.1) ∧ w.cell? ⟨b, off + i * 3 + 2, none⟩ = some (.slice A' x.2.2.length c') ∧ BufW.Data w B x.2.2 A' c'
theorem RdI.fr {w w' : World} {B : Nat} {v : Value} {its : List It} {T : Obj → Prop} (h : RdI w B v its) (hf : Fr B T w w') (hT : ∀ cs r, ¬ T (.cells cs 77 r)) (hu : ∀ cs r, ¬ T (.cells cs 5 r)) : RdI w' B v its := by
  obtain ⟨A, c, rfl, hc, h⟩ := h
  refine ⟨A, c, rfl, hc, fun i x hi => ?_⟩
  obtain ⟨b, off, A', c', h1, h2, ⟨cs, h3⟩, h4, h5, h6, h7⟩ := h i x hi
  have hb : w'.heap[b]? = w.heap[b]? := (hf.keep b _ h3 (hT _ _)).trans h3.symm
  refine ⟨b, off, A', c', h1, h2, ⟨cs, hb.trans h3⟩, ?_, ?_, ?_, h7.fr hf hu⟩
  · rw [World.cell?_of_block (w := w) hb]; exact h4
  · rw [World.cell?_of_block (w := w) hb]; exact h5
  · rw [World.cell?_of_block (w := w) hb]; exact h6
theorem RdI.of_rows {w : World} {B base : Nat} {v : Value} {its : List It} (h : RowsAt w B base 77 v its) (hB : B ≤ base) : RdI w B v its := by
  obtain ⟨A, c, hv, hc, -⟩ := h.form
  refine ⟨A, c, hv, hc, fun i x hi => ?_⟩
  obtain ⟨g, c2, A', c', hv2, a0, a1, a2, hd, hb, -⟩ := h.get hi
  rw [hv] at hv2
  injection hv2 with hA hl hc2
  obtain ⟨R, -, hR, -⟩ := h
  have hbk : ∃ cs, Bk w g 77 cs := by
    rcases hR.2 with ⟨hn, -⟩ | ⟨g', cap, cur, hn, -, hh, -⟩
    · rw [hv, hA] at hn; cases hn
    · rw [hv, hA] at hn
      injection hn with hn
      injection hn with hn
      injection hn with hn
      subst hn
      exact ⟨cur, hh⟩
  exact ⟨g, 0, A', c', hA, Nat.le_trans hB hb, hbk, by simpa using a0, by simpa using a1, by simpa using a2, hd⟩
/-- What is behind the first k. -/
theorem RdI.drop {w : World} {B : Nat} {A : Option Addr} {c : Nat} {its : List It} (h : RdI w B (.slice A its.length c) its) (k : Nat) (hk : k ≤ its.length) (A' : Option Addr) (hA : A' = if c = k then A else A.map (·.add (k * 3))) : RdI w B (.slice A' (its.length - k) (c - k)) (its.drop k) := by
  obtain ⟨A0, c0, hv, hc, h⟩ := h
  injection hv with h1 h2 h3
  subst h1 h3
  refine ⟨A', c - k, by rw [List.length_drop], by rw [List.length_drop]; omega, fun i x hi => ?_⟩
  rw [List.getElem?_drop] at hi
  obtain ⟨b, off, A2, c2, rfl, h2', h3, h4, h5, h6, h7⟩ := h _ x hi
  have hlt := (List.getElem?_eq_some_iff.1 hi).1
  rw [if_neg (by omega)] at hA
  refine ⟨b, off + k * 3, A2, c2, by rw [hA]; simp [Addr.add_lit], h2', h3, ?_, ?_, ?_, h7⟩
  · rw [← h4]; congr 2; omega
  · rw [← h5]; congr 2; omega
  · rw [← h6]; congr 2; omega

/-- A Buffer of the reference in block r. -/
def RBuf (w : World) (B r : Nat) (most : Int) (its : List It) : Prop := ∃ v, Bk w r 41 #[.int .i64 most, v] ∧ B ≤ r ∧ RdI w B v its
/-- The kind of block that its calls write. -/
def rbufT : Obj → Prop
  | .cells _ t _ => t = 41
  | _ => False
theorem RBuf.fr {w w' : World} {B r : Nat} {most : Int} {its : List It} {T : Obj → Prop} (h : RBuf w B r most its) (hf : Fr B T w w') (hT : ∀ cs r, ¬ T (.cells cs 77 r)) (hu : ∀ cs r, ¬ T (.cells cs 5 r)) (hb : ∀ cs r, ¬ T (.cells cs 41 r)) : RBuf w' B r most its := by
  obtain ⟨v, h1, h2, h3⟩ := h
  exact ⟨v, hf.bk h1 (hb _ _), h2, h3.fr hf hT hu⟩

/-- What Find tells. -/
def FindIs (its : List It) (q kf : Int) : Prop := (kf = -1 ∧ lk its q = none) ∨ ∃ (i : Nat) (y : It), kf = i ∧ its[i]? = some y ∧ y.1 = q ∧ lk its q = some y

theorem lk_at {its : List It} {q : Int} {i : Nat} {y : It} (hy : its[i]? = some y) (hq : y.1 = q) (hno : ∀ j z, j < i → its[j]? = some z → z.1 ≠ q) : lk its q = some y := by
  induction its generalizing i with
  | nil => simp at hy
  | cons a its ih =>
    rw [look_cons]
    cases i with
    | zero =>
      have : a = y := by simpa using hy
      subst this
      rw [if_pos hq]
    | succ i =>
      rw [if_neg (hno 0 a (by omega) rfl)]
      exact ih (by simpa using hy) (fun j z hj hz => hno (j + 1) z (by omega) (by simpa using hz))
theorem lk_not {its : List It} {q : Int} (hno : ∀ (j : Nat) z, its[j]? = some z → z.1 ≠ q) : lk its q = none := by
  rw [look_none]
  intro hm
  obtain ⟨y, hy, rfl⟩ := List.mem_map.1 hm
  obtain ⟨j, hj, e⟩ := List.getElem_of_mem hy
  exact hno j y (by rw [List.getElem?_eq_getElem hj, e]) rfl

set_option maxHeartbeats 2000000 in
theorem find_any (B r : Nat) (most : Int) (its : List It) (q : Int) (w : World) (h : RBuf w B r most its) (hl : its.length ≤ 16) :
    Calls Tryd.prog 25 #[ptr r, .int .i64 q] w fun e w' => ∃ kf, e = .returned (.int .i64 kf) ∧ FindIs its q kf ∧ w' = w := by
  obtain ⟨v, hk, hB, A, c, rfl, hc, hi⟩ := h
  have c1 := hk.at_ (i := 1) (u := .slice A its.length c) rfl
  have HI := hide hi
  obtain ⟨n, hn⟩ : ∃ n, n = its.length := ⟨_, rfl⟩
  have HN := hide hn
  rw [← hn] at c1 hl
  clear hk hi hn hc
  unfold ptr
  go_enter Tryd.func25, Tryd.ntmps25
  go_wp2_with fail
  go_loopw [5] (fun i wr => ∃ j : Nat, j ≤ n ∧ i = .int .i64 j ∧ wr = w ∧ Hid (∀ (m : Nat) z, m < j → its[m]? = some z → z.1 ≠ q)) (fun i _ => n - (intOf i).toNat)
  case atStart => exact ⟨0, by omega, rfl, rfl, hide (fun m z hm => absurd hm (Nat.not_lt_zero m))⟩
  case round =>
    obtain ⟨j, hj, rfl, rfl, HT⟩ := hrel
    by_cases hlt : j < n
    · have hd1 : decide ((j : Int) < (n : Int)) = true := by simp; omega
      have hji : (j : Int) < (n : Int) := by omega
      obtain ⟨x, hx⟩ : ∃ x, its[j]? = some x := ⟨its[j]'(by rw [← HN.out]; exact hlt), List.getElem?_eq_getElem (by rw [← HN.out]; exact hlt)⟩
      obtain ⟨b, off, A', c', rfl, -, -, x0, -, -, -⟩ := HI.out j x hx
      have HX := hide hx
      clear hx
      obtain ⟨z0, z1, zd⟩ := x
      simp only at x0
      by_cases heq : z0 = q
      · have hb : (z0 == q) = true := by simp [heq]
        have HQ := hide heq
        clear heq
        go_wp2_with fail
        go_ret
        exact ⟨_, rfl, .inr ⟨j, (z0, z1, zd), rfl, HX.out, HQ.out, lk_at HX.out HQ.out HT.out⟩, by first | rfl | trivial⟩
      · have hb : (z0 == q) = false := by simp [heq]
        have HQ := hide heq
        clear heq
        go_wp2_with fail
        go_roundw
        case rel => exact ⟨j + 1, by omega, by go_num, by first | rfl | trivial, hide (fun m z hm hz => by
          rcases Nat.lt_or_ge m j with h | h
          · exact HT.out m z h hz
          · have : m = j := by omega
            subst this
            rw [HX.out] at hz
            injection hz with hz
            subst hz
            exact HQ.out)⟩
        case measure => simp [intOf]; omega
    · have hd1 : decide ((j : Int) < (n : Int)) = false := by simp; omega
      have HNO : Hid (lk its q = none) := hide (lk_not (fun m z hz => HT.out m z (by have := (List.getElem?_eq_some_iff.1 hz).1; have := HN.out; omega) hz))
      go_wp2_with fail
      go_ret
      exact ⟨-1, by first | rfl | trivial, .inl ⟨rfl, HNO.out⟩, by first | rfl | trivial⟩
end Go.Proofs.YtndhmdengadmjaaDoor.BufL
