/- RecordBack, whole. -/
import Derived.Test.YtndhmdengadmjaaRecAll
import Derived.Test.YtndhmdengadmjaaRecBack
import Derived.Test.YtndhmdengadmjaaRecOpen
set_option linter.unusedVariables false
namespace Go.Proofs.Ytndhmdengadmjaa.RecW
open Go.ChangeShapes Go.WideShapes Go.Deep Go.RowKit Rec BufW I64
/-- The room of a list of batches that came in. -/
def Room (v : Value) (n : Nat) : Prop := ∃ A c, v = .slice A n c ∧ n ≤ c ∧ c ≤ 9223372036854775807
theorem room_of {H : Type} {enc : TypeId × Value → H} {w : World} {r : Reach} {b0 : Nat} {v : Value} {d : DataW H} {p : List MemPlace} {ls : List (List E3)} (hr : RdB w v ls) (hval : Value.okWide Try.prog w r b0 44 v) (h : DataW.Trod enc Try.prog w 0 (fun _ => true) true 44 v d p) : Room v ls.length := by
  obtain ⟨a0, len0, cap0, rfl⟩ := okWide_slice Try.underlying44 hval
  obtain ⟨A, c, hv, -⟩ := hr
  have hlen : len0 = ls.length := by injection hv
  obtain ⟨fuel, hf⟩ := h
  rcases open_slice Try.underlying44 hf with ⟨hcs, -⟩ | ⟨a, len, cap, m, n, D, Pl, hcs, -, hl, hm, hmm, hx, hi⟩
  · simp [Value.cells] at hcs
    obtain ⟨rfl, rfl, rfl⟩ := hcs
    exact ⟨none, 0, by rw [← hlen], by omega, by omega⟩
  · simp [Value.cells] at hcs
    obtain ⟨rfl, rfl, rfl⟩ := hcs
    exact ⟨some a, cap0, by rw [← hlen], by omega, by simp only [maxLen] at hm; omega⟩
theorem back_all (w : World) (v : Value) (ls : List (List E3)) (h : RdB w v ls) (hs : Small ls) (hr : Room v ls.length) (cut : Int) (t1 : -9223372036854775808 ≤ cut) (t2 : cut ≤ 9223372036854775807) :
    Calls Try.prog 5 #[v, .int .i64 cut] w fun e w' => e = .returned (.bool true) ∧ Below w.heap.size w w' := by
  obtain ⟨A, c, rfl, h1, h2⟩ := hr
  exact back_law batch_says fact_says w A ls.length c ls rfl h hs h1 h2 cut t1 t2
end Go.Proofs.Ytndhmdengadmjaa.RecW
