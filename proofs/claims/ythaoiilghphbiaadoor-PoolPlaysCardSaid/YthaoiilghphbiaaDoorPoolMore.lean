/- Plain words on a pool's lists, for the laws over scripts. -/
import Derived.Test.YthaoiilghphbiaaDoorPoolOps
namespace Go.Proofs.YthaoiilghphbiaaDoor.PoolW
open Go.RowKit HeapP HeapW I64

/-- Worn no more than k times. -/
def Few (n : Nat) (wr : List Int) (k : Nat) : Prop := wr.length = n ∧ ∀ b, b < n → 0 ≤ wr.getD b 0 ∧ wr.getD b 0 ≤ k
theorem few_zero (n : Nat) : Few n (List.replicate n 0) 0 := ⟨by simp, fun b hb => by rw [getD_rep _ _ _ hb]; omega⟩
theorem few_more {n k : Nat} {wr : List Int} (h : Few n wr k) : Few n wr (k + 1) := ⟨h.1, fun b hb => by have := h.2 b hb; omega⟩
theorem few_step {n k b : Nat} {wr : List Int} (h : Few n wr k) (hb : b < n) : Few n (wr.set b (wr.getD b 0 + 1)) (k + 1) := by
  refine ⟨by simpa using h.1, fun q hq => ?_⟩
  have h1 := h.2 b hb
  have h2 := h.2 q hq
  by_cases e : b = q
  · subst e; rw [I64.getD_set_eq _ _ _ (by have := h.1; omega)]; omega
  · rw [I64.getD_set_ne _ _ _ _ e]; omega
theorem few_any {n k : Nat} {wr : List Int} (h : Few n wr k) (b : Nat) : 0 ≤ wr.getD b 0 ∧ wr.getD b 0 ≤ k := by
  by_cases hb : b < n
  · exact h.2 b hb
  · rw [List.getD_eq_getElem?_getD, List.getElem?_eq_none (by rw [h.1]; omega)]
    simp

theorem three_nat : ∀ l : List Int, (∀ x ∈ l, x = 0 ∨ x = 1 ∨ x = 2) → l.count 0 + l.count 1 + l.count 2 = l.length := by
  intro l
  induction l with
  | nil => intro _; rfl
  | cons x t ih =>
    intro h
    have h1 := ih fun y hy => h y (List.mem_cons_of_mem _ hy)
    rw [List.count_cons, List.count_cons, List.count_cons, List.length_cons]
    rcases h x (by simp) with rfl | rfl | rfl
    · rw [if_pos (by decide), if_neg (by decide), if_neg (by decide)]; omega
    · rw [if_neg (by decide), if_pos (by decide), if_neg (by decide)]; omega
    · rw [if_neg (by decide), if_neg (by decide), if_pos (by decide)]; omega
theorem st_three {n : Nat} {st : List Int} (hl : st.length = n) (hv : ∀ b, b < n → st.getD b 0 = 0 ∨ st.getD b 0 = 1 ∨ st.getD b 0 = 2) : ((st.count 0 : Nat) : Int) + ((st.count 1 : Nat) : Int) + ((st.count 2 : Nat) : Int) = n := by
  have := three_nat st fun x hx => by
    obtain ⟨i, hi, rfl⟩ := List.getElem_of_mem hx
    have := hv i (by omega)
    simpa [List.getD, hi] using this
  omega
theorem fcode_latched {n : Nat} {sp : Int} {st : List Int} {b : Int} (h : sp < ((st.count 2 : Nat) : Int)) : fcode n sp st b = 9 := by
  unfold fcode
  rw [if_pos h]
end Go.Proofs.YthaoiilghphbiaaDoor.PoolW
