/- A list of batches that came in, and what its bulk bounds. -/
import Derived.Test.YtndhmdengadmjaaDoorRecSmall
import Derived.Test.YtndhmdengadmjaaDoorScript
import Derived.Test.YtndhmdengadmjaaDoorRows
set_option linter.unusedVariables false
namespace Go.Proofs.YtndhmdengadmjaaDoor.RecW
open Go.ChangeShapes Go.WideShapes Go.Deep Go.RowKit Rec I64

def inI (x : Int) : Prop := -9223372036854775808 ≤ x ∧ x ≤ 9223372036854775807
def wt (ls : List (List E3)) : Nat := (ls.map fun es => es.length + 1).sum
theorem wt_cons (es : List E3) (ls : List (List E3)) : wt (es :: ls) = es.length + 1 + wt ls := by simp [wt]
theorem num9 {x : Int} (h : inI x) : (num x.toNat).length ≤ 9 := num_len_le 9 _ (by unfold inI at h; omega) (by omega)
theorem ents_len_le : ∀ es : List E3, (∀ e ∈ es, inI e.1 ∧ inI e.2.1 ∧ inI e.2.2) → (Rec.ents (natE es)).length ≤ 27 * es.length
  | [], _ => Nat.zero_le _
  | e :: es, h => by
    have ih := ents_len_le es (fun x hx => h x (List.mem_cons_of_mem _ hx))
    obtain ⟨a, b, c⟩ := h e (List.mem_cons_self ..)
    have h1 := num9 a
    have h2 := num9 b
    have h3 := num9 c
    simp only [natE, List.map_cons, Rec.ents, List.length_append, ent, toN, List.length_cons] at ih ⊢
    omega
theorem flat_len_le : ∀ ls : List (List E3), (∀ es ∈ ls, es.length ≤ 2000000 ∧ ∀ e ∈ es, inI e.1 ∧ inI e.2.1 ∧ inI e.2.2) → (flat (natL ls)).length ≤ 40 * wt ls
  | [], _ => Nat.zero_le _
  | es :: ls, h => by
    have ih := flat_len_le ls (fun x hx => h x (List.mem_cons_of_mem _ hx))
    obtain ⟨hl, he⟩ := h es (List.mem_cons_self ..)
    have h1 := ents_len_le es he
    have h2 : (num (natE es).length).length ≤ 9 := num_len_le 9 _ (by rw [natE, List.length_map]; omega) (by omega)
    rw [wt_cons]
    simp only [natL, List.map_cons, flat, List.length_append, bat, sum_len, body] at ih ⊢
    omega
theorem wt_take (ls : List (List E3)) (i : Nat) : wt (ls.take i) ≤ wt ls := by
  induction ls generalizing i with
  | nil => simp
  | cons es ls ih =>
    cases i with
    | zero => simp [wt]
    | succ i => rw [List.take_succ_cons, wt_cons, wt_cons]; have := ih i; omega
theorem wt_len (ls : List (List E3)) : ls.length ≤ wt ls := by
  induction ls with
  | nil => simp [wt]
  | cons es ls ih => rw [wt_cons, List.length_cons]; omega
theorem wt_mem {ls : List (List E3)} {es : List E3} (h : es ∈ ls) : es.length + 1 ≤ wt ls := by
  induction ls with
  | nil => cases h
  | cons a ls ih =>
    rw [wt_cons]
    rcases List.mem_cons.1 h with rfl | h
    · omega
    · have := ih h; omega
theorem small_of {ls : List (List E3)} (hw : wt ls ≤ 1048576) (hb : ∀ es ∈ ls, ∀ e ∈ es, inI e.1 ∧ inI e.2.1 ∧ inI e.2.2) : Small ls := by
  refine ⟨by have := wt_len ls; omega, fun es he => by have := wt_mem he; omega, fun i => ?_⟩
  have h1 := flat_len_le (ls.take i) (fun es he => by
    have hm := List.mem_of_mem_take he
    exact ⟨by have := wt_mem hm; omega, hb es hm⟩)
  have h2 := wt_take ls i
  omega

section
variable {H : Type} {enc : TypeId × Value → H} {w : World}
theorem bulk_one (d : DataW H) : 1 ≤ Rows.uptoBulk d := by
  cases d with
  | lit l => cases l <;> simp [Rows.uptoBulk]
  | nil => simp [Rows.uptoBulk]
  | ptr d => simp [Rows.uptoBulk]
  | slice elems spare => simp [Rows.uptoBulk]
  | agg parts => simp [Rows.uptoBulk]
  | iface t d => simp [Rows.uptoBulk]
  | map entries => simp [Rows.uptoBulk]
  | held h => simp [Rows.uptoBulk]
theorem bulk_len (l : List (DataW H)) : l.length ≤ Rows.uptoBulkAll l := by
  induction l with
  | nil => simp [Rows.uptoBulkAll]
  | cons x r ih => have := bulk_one x; simp only [Rows.uptoBulkAll, List.length_cons]; omega

theorem bulk_append (l r : List (DataW H)) : Rows.uptoBulkAll (l ++ r) = Rows.uptoBulkAll l + Rows.uptoBulkAll r := by
  induction l with
  | nil => simp [Rows.uptoBulkAll]
  | cons x l ih => simp only [List.cons_append, Rows.uptoBulkAll, ih]; omega
theorem ent_fields : ∃ fs : Array Field, Tryd.prog.underlying 60 = some (.struct fs) ∧ oneCellFields Tryd.prog fs = true ∧ Tryd.prog.cellsOf 60 = 3 ∧ fs.size = 3 ∧ ∀ (j : Nat) f, fs[j]? = some f → Tryd.prog.underlying f.type = some (.int .i64) :=
  ⟨_, Tryd.underlying60, by kernel_rfl, by kernel_rfl, rfl, fun j f hf => by rcases j with _ | _ | _ | j <;> simp at hf <;> subst hf <;> exact Tryd.underlying3⟩
/-- A slice of entries. -/
theorem open_ents {fuel : Nat} {cs : List Value} {x : DataW H × List MemPlace} (h : DataW.trod enc Tryd.prog w 0 (fun _ => true) true fuel 56 cs = some x) :
    ∃ ve es, cs = [ve] ∧ RdE w ve es ∧ (∀ e ∈ es, inI e.1 ∧ inI e.2.1 ∧ inI e.2.2) ∧ es.length + 1 ≤ Rows.uptoBulk x.1 := by
  obtain ⟨fs, hfs, hone, hC, hsz, hint⟩ := ent_fields
  rcases open_slice_fields Tryd.underlying56 hfs hone (by rw [hsz]; exact hC) h with ⟨rfl, rfl⟩ | ⟨a, len, cap, m, D, Pl, rfl, -, hl, hm, hmm, hx, hi⟩
  · exact ⟨_, [], rfl, ⟨none, 0, rfl, fun i e hie => by simp at hie⟩, (fun e he => by cases he), by simp [Rows.uptoBulk]⟩
  · simp only [if_true] at hmm
    subst hmm
    have hcell : ∀ i j, i < len → j < 3 → w.cell? (a.add (i * 3 + j)) = some (.int .i64 (cellInt w (a.add (i * 3 + j)))) := by
      intro i j hi' hj
      obtain ⟨ys, n, -, -, -, hff⟩ := hi i (by omega)
      rw [hsz] at hff
      have hjs : j < fs.size := by omega
      obtain ⟨v, y, hc, -, hty⟩ := hff j fs[j] (Array.getElem?_eq_getElem hjs)
      obtain ⟨z, hz, -, hw⟩ := DataW.trod_int (hint j fs[j] (Array.getElem?_eq_getElem hjs)) hty
      simp only [List.cons.injEq, and_true] at hz
      subst hz
      have hbd := bounds_i64 hw
      unfold cellInt
      rw [hc]
      simp only
      rw [if_pos hbd]
    have hl0 : ((List.range len).map fun i => (cellInt w (a.add (i * 3 + 0)), cellInt w (a.add (i * 3 + 1)), cellInt w (a.add (i * 3 + 2)))).length = len := by simp
    refine ⟨_, (List.range len).map fun i => (cellInt w (a.add (i * 3 + 0)), cellInt w (a.add (i * 3 + 1)), cellInt w (a.add (i * 3 + 2))), rfl, ⟨some a, m, by rw [hl0], fun i e hie => ?_⟩, fun e he => ?_, ?_⟩
    · have hlt : i < len := by have := (List.getElem?_eq_some_iff.1 hie).1; rw [hl0] at this; exact this
      rw [List.getElem?_map, List.getElem?_range hlt] at hie
      simp only [Option.map_some, Option.some.injEq] at hie
      subst hie
      obtain ⟨b, off, spot⟩ := a
      have hc0 := hcell 0 0 (by omega) (by omega)
      have hspot : spot = none := by simpa [Addr.add] using World.cell?_spot hc0
      subst hspot
      have c0 := hcell i 0 hlt (by omega)
      have c1 := hcell i 1 hlt (by omega)
      have c2 := hcell i 2 hlt (by omega)
      refine ⟨b, off, rfl, ?_, ?_, ?_⟩
      · simpa only [Addr.add_lit, Nat.add_zero] using c0
      · simpa only [Addr.add_lit, Nat.add_assoc] using c1
      · simpa only [Addr.add_lit, Nat.add_assoc] using c2
    · obtain ⟨i, -, rfl⟩ := List.mem_map.1 he
      exact ⟨cellInt_bounds w _, cellInt_bounds w _, cellInt_bounds w _⟩
    · rw [hl0, hx]
      simp only [Rows.uptoBulk]
      have := bulk_len ((List.range len).map D)
      simp only [List.length_map, List.length_range] at this
      omega

set_option maxRecDepth 20000 in
/-- A list of batches that came in. -/
theorem open_batches {r : Reach} {b0 : Nat} {v : Value} {d : DataW H} {p : List MemPlace} (hval : Value.okWide Tryd.prog w r b0 22 v) (h : DataW.Trod enc Tryd.prog w 0 (fun _ => true) true 22 v d p) :
    ∃ ls : List (List E3), RdB w v ls ∧ (∀ es ∈ ls, ∀ e ∈ es, inI e.1 ∧ inI e.2.1 ∧ inI e.2.2) ∧ wt ls ≤ Rows.uptoBulk d := by
  obtain ⟨a0, len0, cap0, rfl⟩ := okWide_slice Tryd.underlying22 hval
  obtain ⟨fuel, hf⟩ := h
  have hc1 : Tryd.prog.cellsOf 56 = 1 := by kernel_rfl
  rcases open_slice Tryd.underlying22 hf with ⟨hcs, -⟩ | ⟨a, len, cap, m, n, D, Pl, hcs, -, hl, hm, hmm, hx, hi⟩
  · simp [Value.cells] at hcs
    obtain ⟨rfl, rfl, rfl⟩ := hcs
    exact ⟨[], ⟨none, 0, rfl, fun i e hie => by simp at hie⟩, (fun es he => by cases he), by simp [wt]⟩
  · simp [Value.cells] at hcs
    obtain ⟨rfl, rfl, rfl⟩ := hcs
    simp only [if_true] at hmm
    subst hmm
    simp only [Prod.mk.injEq] at hx
    obtain ⟨rfl, -⟩ := hx
    have key : ∀ i, ∃ q : Value × List E3, i < len0 → w.cell? (a.add i) = some q.1 ∧ RdE w q.1 q.2 ∧ (∀ e ∈ q.2, inI e.1 ∧ inI e.2.1 ∧ inI e.2.2) ∧ q.2.length + 1 ≤ Rows.uptoBulk (D i) := by
      intro i
      by_cases hlt : i < len0
      · obtain ⟨cs', hc, ht⟩ := hi i (by omega)
        rw [hc1] at hc
        obtain ⟨_, hcl, hat⟩ := World.cells?_some hc
        obtain ⟨ve, es, rfl, h1, h2, h3⟩ := open_ents ht
        have h4 := hat 0 (by omega)
        have e0 : (a.add (i * 1 + 0)) = a.add i := by rw [Nat.mul_one, Nat.add_zero]
        first | rw [e0] at h4 | (rw [Nat.mul_one] at h4; rw [show (a.add i).add 0 = a.add i from by simp [Addr.add]] at h4)
        exact ⟨(ve, es), fun _ => ⟨by simpa using h4, h1, h2, h3⟩⟩
      · exact ⟨(undef, []), fun h => absurd h hlt⟩
    obtain ⟨f, hf'⟩ := Classical.axiomOfChoice key
    have hl0 : ((List.range len0).map fun i => (f i).2).length = len0 := by simp
    refine ⟨(List.range len0).map fun i => (f i).2, ⟨some a, m, by rw [hl0], fun i es hie => ?_⟩, fun es he => ?_, ?_⟩
    · have hlt : i < len0 := by have := (List.getElem?_eq_some_iff.1 hie).1; rw [hl0] at this; exact this
      rw [List.getElem?_map, List.getElem?_range hlt] at hie
      simp only [Option.map_some, Option.some.injEq] at hie
      subst hie
      obtain ⟨b, off, spot⟩ := a
      have hc0 := (hf' 0 (by omega)).1
      have hspot : spot = none := by simpa [Addr.add] using World.cell?_spot hc0
      subst hspot
      obtain ⟨c0, c1, -⟩ := hf' i hlt
      rw [Addr.add_lit] at c0
      exact ⟨b, off, (f i).1, rfl, c0, c1⟩
    · obtain ⟨i, hi', rfl⟩ := List.mem_map.1 he
      exact (hf' i (List.mem_range.1 hi')).2.2.1
    · have hsum : ∀ (k : Nat), k ≤ len0 → wt ((List.range k).map fun i => (f i).2) ≤ Rows.uptoBulkAll ((List.range k).map D) := by
        intro k hk
        induction k with
        | zero => simp [wt]
        | succ k ih =>
          have ih := ih (by omega)
          have h3 := (hf' k (by omega)).2.2.2
          rw [List.range_succ, List.map_append, List.map_append, bulk_append]
          simp only [wt, List.map_append, List.sum_append, List.map_cons, List.map_nil, List.sum_cons, List.sum_nil, Rows.uptoBulkAll] at ih ⊢
          omega
      have := hsum len0 (Nat.le_refl _)
      simp only [Rows.uptoBulk]
      omega
end
end Go.Proofs.YtndhmdengadmjaaDoor.RecW
