/- The walk of granarylaw1.RecordJoins, over what batch and recordFact say. -/
import Derived.Test.YtndhmdengadmjaaRecWrite
import Derived.Test.YtndhmdengadmjaaRecSame
set_option linter.unusedVariables false
namespace Go.Proofs.Ytndhmdengadmjaa.RecW
open Go.RowKit Rec BufW I64

/-- What recordFact says. -/
def FactSays : Prop := ∀ w : World, Calls Try.prog 18 #[] w fun e w' => e = .returned (.bool true) ∧ Below w.heap.size w w'

/-- The values of a slice of batches. -/
theorem RdB.vals {w : World} {A : Option Addr} {c : Nat} {ls : List (List E3)} (h : RdB w (.slice A ls.length c) ls) : ∃ vs : List Value, vs.length = ls.length ∧ Rd w A vs ∧ (∀ (i : Nat) es, ls[i]? = some es → ∃ ve, vs[i]? = some ve ∧ RdE w ve es) ∧ ∀ u ∈ vs, u.oneCell' = true := by
  obtain ⟨A', c', hv, h⟩ := h
  obtain ⟨rfl, rfl⟩ : A = A' ∧ c = c' := by injection hv with h1 h2 h3; exact ⟨h1, h3⟩
  clear hv
  have key : ∀ i : Nat, ∃ ve : Value, ∀ es, ls[i]? = some es → (∃ b off, A = some ⟨b, off, none⟩ ∧ w.cell? ⟨b, off + i, none⟩ = some ve) ∧ RdE w ve es := fun i => by
    cases hi : ls[i]? with
    | none => exact ⟨undef, fun es he => by cases he⟩
    | some es =>
      obtain ⟨b, off, ve, h1, h2, h3⟩ := h i es hi
      exact ⟨ve, fun es' he => by injection he with he; subst he; exact ⟨⟨b, off, h1, h2⟩, h3⟩⟩
  obtain ⟨f, hf⟩ := Classical.axiomOfChoice key
  have hat : ∀ i, i < ls.length → ((List.range ls.length).map f)[i]? = some (f i) := fun i hi => by rw [List.getElem?_map, List.getElem?_range hi]; rfl
  refine ⟨(List.range ls.length).map f, by simp, ?_, fun i es hi => ⟨f i, hat i (List.getElem?_eq_some_iff.1 hi).1, (hf i es hi).2⟩, fun u hu => ?_⟩
  · cases hl : ls with
    | nil => exact .inl rfl
    | cons e0 l0 =>
      obtain ⟨⟨b, off, hA, -⟩, -⟩ := hf 0 e0 (by rw [hl]; rfl)
      refine .inr ⟨b, off, hA, fun i u hu => ?_⟩
      rw [← hl] at hu
      have hlt : i < ls.length := by
        have := (List.getElem?_eq_some_iff.1 hu).1
        simpa using this
      rw [hat i hlt] at hu
      injection hu with hu
      subst hu
      obtain ⟨⟨b', off', hA', hc⟩, -⟩ := hf i ls[i] (List.getElem?_eq_getElem hlt)
      rw [hA] at hA'
      injection hA' with hA'
      injection hA' with h1 h2
      subst h1 h2
      exact hc
  · obtain ⟨i, hi, rfl⟩ := List.mem_map.1 hu
    have hlt := List.mem_range.1 hi
    obtain ⟨-, A2, c2, hv, -⟩ := hf i ls[i] (List.getElem?_eq_getElem hlt)
    rw [hv]; rfl

/-- A slice of batches, its row the call's own, its batches as they read in w0. -/
def OwnB (w0 w : World) (base : Nat) (v : Value) (ls : List (List E3)) : Prop :=
  ∃ vs : List Value, w.ownsRow base 70 1 v ls.length vs ∧ vs.length = ls.length ∧ ∀ (i : Nat) es, ls[i]? = some es → ∃ ve, vs[i]? = some ve ∧ RdE w0 ve es
theorem OwnB.rd {w0 w : World} {base : Nat} {v : Value} {ls : List (List E3)} (h : OwnB w0 w base v ls) (hb : Below w0.heap.size w0 w) : RdB w v ls := by
  obtain ⟨vs, h1, h2, h3⟩ := h
  obtain ⟨A, c, rfl, -, -, hr, -, -⟩ := own_form h1
  refine ⟨A, c, rfl, fun i es hi => ?_⟩
  obtain ⟨ve, hv, he⟩ := h3 i es hi
  rcases hr with rfl | ⟨b, off, rfl, hc⟩
  · simp at hv
  · exact ⟨b, off, ve, rfl, hc i ve hv, he.below hb⟩
theorem OwnB.empty (w0 w : World) : OwnB w0 (w.alloc (.cells #[] 70)) w.heap.size (.slice (some ⟨w.heap.size, 0, none⟩) 0 0) [] :=
  ⟨[], ⟨rfl, .inr ⟨w.heap.size, 0, #[], rfl, Nat.le_refl _, heap_alloc_new w _, Nat.le_refl _, Nat.zero_le _, rfl, rfl⟩⟩, rfl, fun i es hi => by simp at hi⟩
/-- 'append(x, l...)' of batches. -/
theorem wpList_bats {w0 w : World} {ops : Array Oper} {rest : List Oper} {o : Oper} {a : Act} {Q : Exit → Act → World → Prop} {base : Nat} {v v2 : Value} {ls ls2 : List (List E3)} (hgd : o.guard = none) (s x : Operand)
    (ho : o.op = .call { callee := .builtin .append, args := #[s, x], argTypes := #[44, 44] })
    (hs : a.eval s = v) (h : OwnB w0 w base v ls) (hx : a.eval x = v2) (h2 : RdB w0 v2 ls2) (hb0 : Below w0.heap.size w0 w) (hl : ls.length + ls2.length ≤ 1000000000) (hbase : base ≤ w.heap.size)
    (hK : ∀ (v' : Value) (w' : World), OwnB w0 w' base v' (ls ++ ls2) → Fr base (rowK 70) w w' → wpList Try.prog ops Q rest (a.put o.dst v') w') : wpList Try.prog ops Q (o :: rest) a w := by
  obtain ⟨i, hi, hz, hsz, hby⟩ := info_parts bats_info
  have h2' := h2
  obtain ⟨A, c, rfl, -⟩ := h2'
  obtain ⟨vs2, hl2, hr2, hr3, hone⟩ := h2.vals
  obtain ⟨vs, h1, hvl, h3⟩ := h
  refine wpList_append_rd w hgd s x 44 ho base 70 i _ 24 Try.underlying44 hi hz hsz hby rfl v ls.length vs hs h1 A ls2.length c vs2 hx hl2 (hr2.below hb0) hone (by simp only [maxLen]; omega) (by omega) hbase ?_
  intro v' w5 ho5 hg5
  have f5 : Fr base (rowK 70) w w5 := Fr.row hg5 hbase fun k hk => ⟨(World.ownsRow.lt h1 k hk).1, fun o ho => by
    rcases h1.2 with ⟨rfl, -⟩ | ⟨g, cap, cur, rfl, -, hh, -⟩
    · cases hk
    · have : g = k := by simpa [Value.ownBlock] using hk
      subst this
      rw [hh] at ho
      injection ho with ho
      subst ho
      rfl⟩
  refine hK v' w5 ⟨vs ++ vs2, by rw [List.length_append]; exact ho5, by rw [List.length_append, List.length_append, hvl, hl2], fun i es hie => ?_⟩ f5
  rcases Nat.lt_or_ge i ls.length with hlt | hge
  · rw [List.getElem?_append_left hlt] at hie
    rw [List.getElem?_append_left (by omega)]
    exact h3 i es hie
  · rw [List.getElem?_append_right hge] at hie
    rw [List.getElem?_append_right (by omega), hvl]
    exact hr3 _ es hie

theorem entv_at {l : List Ent} {i : Nat} {e : Ent} (h : l[i]? = some e) : (entv l)[i * 3]? = some (.int .i64 (e.1 : Int)) ∧ (entv l)[i * 3 + 1]? = some (.int .i64 (e.2.1 : Int)) ∧ (entv l)[i * 3 + 2]? = some (.int .i64 (e.2.2 : Int)) := by
  induction l generalizing i with
  | nil => simp at h
  | cons a l ih =>
    cases i with
    | zero =>
      simp only [List.getElem?_cons_zero, Option.some.injEq] at h
      subst h
      exact ⟨rfl, rfl, rfl⟩
    | succ i =>
      have := ih (by simpa using h)
      rw [show (i + 1) * 3 = i * 3 + 1 + 1 + 1 from by omega]
      simpa [entv] using this
def intE (es : List Ent) : List E3 := es.map fun e => ((e.1 : Int), (e.2.1 : Int), (e.2.2 : Int))
theorem intE_nat {es : List E3} (h : ∀ e ∈ es, okE3 e) : intE (natE es) = es := by
  induction es with
  | nil => rfl
  | cons e es ih =>
    obtain ⟨h1, h2, h3⟩ := h e (List.mem_cons_self ..)
    unfold inN at h1 h2 h3
    have := ih (fun e he => h e (List.mem_cons_of_mem _ he))
    simp only [intE, natE, List.map_cons, List.map_map] at this ⊢
    rw [this]
    congr 1
    simp only [toN]
    obtain ⟨x, y, z⟩ := e
    simp only at h1 h2 h3 ⊢
    rw [Int.toNat_of_nonneg h1.1, Int.toNat_of_nonneg h2.1, Int.toNat_of_nonneg h3.1]
theorem fault_ok {es : List E3} (h : faultOf es = 0) : es.length ≤ 64 ∧ ∀ e ∈ es, okE3 e := by
  unfold faultOf at h
  by_cases h1 : 64 < es.length
  · rw [if_pos h1] at h; cases h
  · rw [if_neg h1] at h
    by_cases h2 : ∀ e ∈ es, okE3 e
    · exact ⟨by omega, h2⟩
    · rw [if_neg h2] at h; cases h
theorem okB_nat {es : List E3} (h : faultOf es = 0) : okB (natE es) := by
  obtain ⟨h1, h2⟩ := fault_ok h
  refine ⟨by rw [natE, List.length_map]; exact h1, fun e he => ?_⟩
  obtain ⟨x, hx, rfl⟩ := List.mem_map.1 he
  obtain ⟨a, b, c⟩ := h2 x hx
  unfold inN at a b c
  unfold okE toN top
  simp only
  omega
theorem EntsAt.rd {w : World} {base : Nat} {v : Value} {es : List Ent} (h : EntsAt w base v es) : RdE w v (intE es) := by
  obtain ⟨A, c, rfl⟩ := h.form
  refine ⟨A, c, by rw [intE, List.length_map], fun i e hi => ?_⟩
  rw [intE, List.getElem?_map] at hi
  cases hx : es[i]? with
  | none => rw [hx] at hi; cases hi
  | some x =>
    rw [hx] at hi
    injection hi with hi
    subst hi
    obtain ⟨g, c', hv, -, -⟩ := World.ownsRow.form h (by have := (List.getElem?_eq_some_iff.1 hx).1; omega)
    injection hv with hA _ hc
    subst hA hc
    have hc := fun j u hu => World.ownsRow.cells h (g := g) rfl j u hu
    obtain ⟨q0, q1, q2⟩ := entv_at hx
    have k0 := hc _ _ q0
    have k1 := hc _ _ q1
    have k2 := hc _ _ q2
    rw [Addr.add_lit] at k0 k1 k2
    exact ⟨g, 0, rfl, k0, by rw [Nat.add_assoc]; exact k1, by rw [Nat.add_assoc]; exact k2⟩
theorem BatsAt.rd {w : World} {base : Nat} {v : Value} {ls : List (List Ent)} (h : BatsAt w base v ls) : RdB w v (ls.map intE) := by
  obtain ⟨A, c, rfl⟩ := h.form
  obtain ⟨R, h1, h2, h3⟩ := h
  refine ⟨A, c, by rw [List.length_map], fun i es hi => ?_⟩
  have hr := Rd.of_own h2
  rw [List.getElem?_map] at hi
  cases hx : ls[i]? with
  | none => rw [hx] at hi; cases hi
  | some x =>
    rw [hx] at hi
    injection hi with hi
    subst hi
    rw [← h1, List.getElem?_map] at hx
    cases hq : R[i]? with
    | none => rw [hq] at hx; cases hx
    | some q =>
      rw [hq] at hx
      injection hx with hx
      subst hx
      have hv : (R.map (·.2))[i]? = some q.2 := by rw [List.getElem?_map, hq]; rfl
      rcases hr with hn | ⟨b, off, rfl, hc⟩
      · rw [hn] at hv; simp at hv
      · exact ⟨b, off, q.2, rfl, hc i _ hv, (h3 q (List.mem_of_getElem? hq)).rd⟩
end Go.Proofs.Ytndhmdengadmjaa.RecW
