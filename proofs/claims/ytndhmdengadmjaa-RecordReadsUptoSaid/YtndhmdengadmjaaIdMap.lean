/- A map from ints to links, told by a plain function: which block each int leads to. -/
import Derived.Test.YtndhmdengadmjaaFr
import Derived.Maps.OwnSet
set_option linter.unusedVariables false
namespace Go.Proofs.Ytndhmdengadmjaa.IdMap
open Go.RowKit Go.Maps

/-- How a link in the map reads. -/
def ptrR (v : Value) : Option (DataW Unit × List MemPlace) :=
  match v with
  | .pointer none => some (.lit (.int .i64 (-1)), [])
  | .pointer (some ⟨b, 0, none⟩) => some (.lit (.int .i64 (b : Int)), [])
  | _ => none
theorem ptrR_none : ptrR (.pointer none) = some (.lit (.int .i64 (-1)), []) := rfl
theorem ptrR_some (b : Nat) : ptrR (.pointer (some ⟨b, 0, none⟩)) = some (.lit (.int .i64 (b : Int)), []) := rfl
theorem ptrR_inv {v : Value} {x : Int} {ps : List MemPlace} (h : ptrR v = some (.lit (.int .i64 x), ps)) : (v = .pointer none ∧ x = -1) ∨ ∃ b : Nat, v = .pointer (some ⟨b, 0, none⟩) ∧ x = b := by
  unfold ptrR at h
  split at h
  · left
    simp only [Option.some.injEq, Prod.mk.injEq, DataW.lit.injEq, Lit.int.injEq] at h
    exact ⟨rfl, h.1.2.symm⟩
  · rename_i b
    right
    simp only [Option.some.injEq, Prod.mk.injEq, DataW.lit.injEq, Lit.int.injEq] at h
    exact ⟨b, rfl, h.1.2.symm⟩
  · cases h

/-- Block b is a map of n entries; int k leads to the block f k. -/
def MapAt (w : World) (b n : Nat) (f : Int → Option Nat) : Prop :=
  ∃ D : DataW Unit, w.ownsMap Try.prog 3 ptrR b n D ∧ size D = n ∧ ∀ k : Int, -9223372036854775808 ≤ k → k ≤ 9223372036854775807 →
    (∀ x, f k = some x → has D (.int .i64 k) = true ∧ ∀ z, D.atKey (.int .i64 k) z = .lit (.int .i64 (x : Int))) ∧ (f k = none → has D (.int .i64 k) = false)

theorem MapAt.lt {w : World} {b n : Nat} {f : Int → Option Nat} (h : MapAt w b n f) : b < w.heap.size := by
  obtain ⟨D, h, -⟩ := h
  exact h.lt
theorem MapAt.congr {w : World} {b n : Nat} {f g : Int → Option Nat} (h : MapAt w b n f) (e : ∀ k : Int, -9223372036854775808 ≤ k → k ≤ 9223372036854775807 → g k = f k) : MapAt w b n g := by
  obtain ⟨D, h1, h2, h3⟩ := h
  exact ⟨D, h1, h2, fun k a b => by rw [e k a b]; exact h3 k a b⟩
theorem MapAt.block {w w' : World} {b n : Nat} {f : Int → Option Nat} (h : MapAt w b n f) (hb : w'.heap[b]? = w.heap[b]?) : MapAt w' b n f := by
  obtain ⟨D, ⟨es, clock, h0, r⟩, h2⟩ := h
  exact ⟨D, ⟨es, clock, hb.trans h0, r⟩, h2⟩
theorem MapAt.obj {w : World} {b n : Nat} {f : Int → Option Nat} (h : MapAt w b n f) : ∃ es clock, w.heap[b]? = some (.map es clock) := by
  obtain ⟨D, ⟨es, clock, h0, r⟩, h2⟩ := h
  exact ⟨es, clock, h0⟩
theorem MapAt.fr {w w' : World} {B b n : Nat} {f : Int → Option Nat} {T : Obj → Prop} (h : MapAt w b n f) (hf : Fr B T w w') (hT : ∀ es clock, ¬ T (.map es clock)) : MapAt w' b n f := by
  obtain ⟨es, clock, h0⟩ := h.obj
  exact h.block ((hf.keep b _ h0 (hT es clock)).trans h0.symm)
/-- What a turn of the map's entries leaves. -/
theorem turned_fr {w w' : World} {B b n : Nat} {f : Int → Option Nat} {T : Obj → Prop} (h : MapAt w b n f) (hb : w.mapTurned w' b) (hB : B ≤ b) (hT : ∀ es clock, T (.map es clock)) : Fr B T w w' := by
  have hg := hb.grown
  obtain ⟨es, clock, h0⟩ := h.obj
  have hlt := h.lt
  refine Fr.row hg (by omega) fun k e => ?_
  injection e with e
  subst e
  exact ⟨hB, fun o ho => by rw [h0] at ho; injection ho with ho; subst ho; exact hT es clock⟩

theorem made (w : World) : MapAt (w.alloc (.map #[] 0)) w.heap.size 0 (fun _ => none) :=
  ⟨.map [], World.ownsMap_made w _ _ _, rfl, fun k _ _ => ⟨fun x h => (by cases h), fun _ => rfl⟩⟩

theorem keyed : Keyed Try.prog 3 := int_keyed Try.underlying3
theorem key {k : Int} (h1 : -9223372036854775808 ≤ k) (h2 : k ≤ 9223372036854775807) : keyOf Try.prog 3 (.int .i64 k) = some (.int .i64 k) := keyOf_int_mk Try.underlying3 (WalkArith.wf_i64 ⟨h1, h2⟩)
theorem zeroE (w : World) : (zeroValue 56).run Try.prog w = .ok (.pointer none) w := by kernel_rfl

theorem lookup_none {w : World} {b n : Nat} {f : Int → Option Nat} {k : Int} (h : MapAt w b n f) (h1 : -9223372036854775808 ≤ k) (h2 : k ≤ 9223372036854775807) (hf : f k = none) :
    (Instr.lookup 62 (.map (some b)) (.int .i64 k) true).run Try.prog w = .ok (.tuple #[.pointer none, .bool false]) w := by
  obtain ⟨D, ho, -, h3⟩ := h
  obtain ⟨v, ps, hrun, hv⟩ := ho.look_ok keyed Try.underlying62 (zeroE w) ptrR_none (key h1 h2)
  have hn := (h3 k h1 h2).2 hf
  rw [atKey_of_not_has hn] at hv
  rw [hn] at hrun
  rcases ptrR_inv hv with ⟨rfl, -⟩ | ⟨c, rfl, e⟩
  · exact hrun
  · omega
theorem lookup_some {w : World} {b n : Nat} {f : Int → Option Nat} {k : Int} {x : Nat} (h : MapAt w b n f) (h1 : -9223372036854775808 ≤ k) (h2 : k ≤ 9223372036854775807) (hf : f k = some x) :
    (Instr.lookup 62 (.map (some b)) (.int .i64 k) true).run Try.prog w = .ok (.tuple #[.pointer (some ⟨x, 0, none⟩), .bool true]) w := by
  obtain ⟨D, ho, -, h3⟩ := h
  obtain ⟨v, ps, hrun, hv⟩ := ho.look_ok keyed Try.underlying62 (zeroE w) ptrR_none (key h1 h2)
  have hn := (h3 k h1 h2).1 x hf
  rw [hn.2] at hv
  rw [hn.1] at hrun
  rcases ptrR_inv hv with ⟨rfl, e⟩ | ⟨c, rfl, e⟩
  · omega
  · have : c = x := by omega
    subst this
    exact hrun
theorem len_run {w : World} {b n : Nat} {f : Int → Option Nat} (h : MapAt w b n f) (ty : TypeId) : (Builtin.len_ #[62] ty #[.map (some b)]).run Try.prog w = .ok (.int .i64 n) w := by
  obtain ⟨D, ho, hs, -⟩ := h
  have := ho.len Try.underlying62 ty
  rw [hs] at this
  exact this

theorem lit_ne {a b : Int} (h : a ≠ b) : (Lit.int .i64 a) ≠ Lit.int .i64 b := fun e => h (by injection e)
theorem tight {w : World} {b n : Nat} {D : DataW Unit} (h : w.ownsMap Try.prog 3 ptrR b n D) : w.ownsMap Try.prog 3 ptrR b (size D) D := by
  obtain ⟨es, clock, h0, F, hs, rfl⟩ := h
  exact ⟨es, clock, h0, F, by simp [size, length_sorted], rfl⟩
def upf (f : Int → Option Nat) (k : Int) (o : Option Nat) : Int → Option Nat := fun x => if x = k then o else f x

/-- 'm[k] = link x'. -/
theorem store_run {w : World} {b n : Nat} {f : Int → Option Nat} {k : Int} {x : Nat} (h : MapAt w b n f) (h1 : -9223372036854775808 ≤ k) (h2 : k ≤ 9223372036854775807) (hn : n ≤ 1000000) :
    ∃ w', (Instr.mapUpdate 62 (.map (some b)) (.int .i64 k) (.pointer (some ⟨x, 0, none⟩))).run Try.prog w = .ok () w' ∧ MapAt w' b (if (f k).isSome = true then n else n + 1) (upf f k (some x)) ∧ w.mapTurned w' b := by
  obtain ⟨D, ho, hs, h3⟩ := h
  have hT := ho.tidy keyed
  obtain ⟨w', hrun, ho', ht⟩ := ho.store keyed Try.underlying62 (by simp only [maxLen]; omega) (key h1 h2) (ptrR_some x)
  refine ⟨w', hrun, ⟨D.put (.int .i64 k) (.lit (.int .i64 (x : Int))), ?_, ?_, ?_⟩, ht⟩
  · have e : size (D.put (.int .i64 k) (.lit (.int .i64 (x : Int)))) = (if (f k).isSome = true then n else n + 1) := by
      rw [size_put hT, hs]
      cases hf : f k with
      | none => rw [(h3 k h1 h2).2 hf]; simp
      | some y => rw [((h3 k h1 h2).1 y hf).1]; simp
    rw [← e]
    exact tight ho'
  · rw [size_put hT, hs]
    cases hf : f k with
    | none => rw [(h3 k h1 h2).2 hf]; simp
    | some y => rw [((h3 k h1 h2).1 y hf).1]; simp
  · intro q q1 q2
    unfold upf
    by_cases e : q = k
    · subst e
      rw [if_pos rfl]
      refine ⟨fun y hy => ?_, fun hy => (by cases hy)⟩
      injection hy with hy
      subst hy
      exact ⟨has_put_same hT.isMap (k := .int .i64 q) trivial _, fun z => atKey_put_same hT.isMap (k := .int .i64 q) trivial _ z⟩
    · rw [if_neg e, has_put_other (lit_ne e)]
      refine ⟨fun y hy => ⟨((h3 q q1 q2).1 y hy).1, fun z => ?_⟩, (h3 q q1 q2).2⟩
      rw [atKey_put_other (lit_ne e)]
      exact ((h3 q q1 q2).1 y hy).2 z

/-- 'delete(m, k)' of one that is there. -/
theorem drop_run {w : World} {b n : Nat} {f : Int → Option Nat} {k : Int} {x : Nat} (h : MapAt w b n f) (h1 : -9223372036854775808 ≤ k) (h2 : k ≤ 9223372036854775807) (hf : f k = some x) (ty : TypeId) :
    ∃ w', (Builtin.delete_ #[62, 3] ty #[.map (some b), .int .i64 k]).run Try.prog w = .ok (.tuple #[]) w' ∧ MapAt w' b (n - 1) (upf f k none) ∧ w.mapTurned w' b := by
  obtain ⟨D, ho, hs, h3⟩ := h
  have hT := ho.tidy keyed
  obtain ⟨w', hrun, ho', ht⟩ := ho.drop keyed Try.underlying62 (key h1 h2) ty
  have e : size (D.del (.int .i64 k)) = n - 1 := by
    have := size_del (k := .int .i64 k) hT
    rw [((h3 k h1 h2).1 x hf).1, hs] at this
    simp at this
    omega
  refine ⟨w', hrun, ⟨D.del (.int .i64 k), ?_, e, ?_⟩, ht⟩
  · rw [← e]; exact tight ho'
  · intro q q1 q2
    unfold upf
    by_cases e : q = k
    · subst e
      rw [if_pos rfl]
      exact ⟨fun y hy => (by cases hy), fun _ => has_del_same⟩
    · rw [if_neg e, has_del_other (lit_ne e)]
      refine ⟨fun y hy => ⟨((h3 q q1 q2).1 y hy).1, fun z => ?_⟩, (h3 q q1 q2).2⟩
      rw [atKey_del_other (lit_ne e)]
      exact ((h3 q q1 q2).1 y hy).2 z

/-- The same as a step of a region that draws. -/
theorem step_delete {w : World} {ops : Array Oper} {o : Oper} {a : Act} {K : Act → World → Prop} {Q : Exit → Act → World → Prop} {E : Prop} (hgd : o.guard = none) (m x : Operand)
    (ho : o.op = .call { callee := .builtin .delete, args := #[m, x], argTypes := #[62, 3] })
    {b n : Nat} {f : Int → Option Nat} {k : Int} {y : Nat} (hm : a.eval m = .map (some b)) (hx : a.eval x = .int .i64 k) (h : MapAt w b n f) (h1 : -9223372036854775808 ≤ k) (h2 : k ≤ 9223372036854775807) (hf : f k = some y)
    (hK : ∀ w', MapAt w' b (n - 1) (upf f k none) → w.mapTurned w' b → K (a.put o.dst (.tuple #[])) w') :
    if Region.wanted o (yielded ops a.tmps) = true then Oper.wp Try.prog o a w K Q else E := by
  have hw : Region.wanted o (yielded ops a.tmps) = true := by simp [Region.wanted, hgd]
  rw [if_pos hw]
  obtain ⟨w', hrun, h3, h4⟩ := drop_run h h1 h2 hf o.type
  unfold Oper.wp execOp
  simp only [ho, resolve, invoke, builtin, Sem.run_bind, Sem.run_pure, Result.andThen_ok, List.map_toArray, List.map_cons, List.map_nil, hm, hx, hrun]
  exact hK w' h3 h4
end Go.Proofs.Ytndhmdengadmjaa.IdMap
