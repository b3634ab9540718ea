/- Rows of items (lba, gone, data) in a slice of the program's own. -/
import Derived.Test.YtndhmdengadmjaaBufW
import Derived.Deep.AppendLies
import Derived.Laws.AppendOwnNone
set_option linter.unusedVariables false
namespace Go.Proofs.Ytndhmdengadmjaa.Items
open Go.RowKit I64 BufP BufW

/-- An item and where its data lie. -/
abbrev Ro := It × Option Addr × Nat
def row3 (r : Ro) : List Value := [.int .i64 r.1.1, .bool r.1.2.1, .slice r.2.1 r.1.2.2.length r.2.2]
def rows3 : List Ro → List Value
  | [] => []
  | r :: l => .int .i64 r.1.1 :: .bool r.1.2.1 :: .slice r.2.1 r.1.2.2.length r.2.2 :: rows3 l
theorem rows3_append (l m : List Ro) : rows3 (l ++ m) = rows3 l ++ rows3 m := by
  induction l with
  | nil => rfl
  | cons r l ih => simp only [List.cons_append, rows3, ih]
theorem rows3_one (r : Ro) : rows3 [r] = row3 r := rfl
theorem rows3_len (l : List Ro) : (rows3 l).length = l.length * 3 := by
  induction l with
  | nil => rfl
  | cons r l ih => simp only [rows3, List.length_cons, ih]; omega
theorem rows3_at {l : List Ro} {i : Nat} {r : Ro} (h : l[i]? = some r) : (rows3 l)[i * 3]? = some (.int .i64 r.1.1) ∧ (rows3 l)[i * 3 + 1]? = some (.bool r.1.2.1) ∧ (rows3 l)[i * 3 + 2]? = some (.slice r.2.1 r.1.2.2.length r.2.2) := by
  induction l generalizing i with
  | nil => simp at h
  | cons a l ih =>
    cases i with
    | zero =>
      simp only [List.getElem?_cons_zero, Option.some.injEq] at h
      subst h
      exact ⟨rfl, rfl, rfl⟩
    | succ i =>
      have := ih (by simpa using h)
      rw [show (i + 1) * 3 = i * 3 + 1 + 1 + 1 from by omega]
      simpa [rows3] using this
theorem rows3_set {l : List Ro} {i : Nat} (r : Ro) (h : i < l.length) : (((rows3 l).set (i * 3) (.int .i64 r.1.1)).set (i * 3 + 1) (.bool r.1.2.1)).set (i * 3 + 2) (.slice r.2.1 r.1.2.2.length r.2.2) = rows3 (l.set i r) := by
  induction l generalizing i with
  | nil => simp at h
  | cons a l ih =>
    cases i with
    | zero => rfl
    | succ i =>
      have := ih (i := i) (by simpa using h)
      rw [show (i + 1) * 3 = i * 3 + 1 + 1 + 1 from by omega]
      simp only [rows3, List.set_cons_succ]
      rw [this]
theorem row3_one (r : Ro) : ∀ u ∈ row3 r, u.oneCell' = true := by
  intro u hu
  simp only [row3, List.mem_cons, List.not_mem_nil, or_false] at hu
  rcases hu with rfl | rfl | rfl <;> rfl
theorem rows3_onec (l : List Ro) : ∀ u ∈ rows3 l, u.oneCell' = true := by
  induction l with
  | nil => intro u hu; cases hu
  | cons r l ih =>
    intro u hu
    simp only [rows3, List.mem_cons] at hu
    rcases hu with rfl | rfl | rfl | hu
    · rfl
    · rfl
    · rfl
    · exact ih u hu

/-- The slice v of items of type e: its. Their data lie below B or in blocks of bytes. -/
def RowsAt (w : World) (B base : Nat) (e : TypeId) (v : Value) (its : List It) : Prop :=
  ∃ R : List Ro, R.map (·.1) = its ∧ w.ownsRow base e 3 v its.length (rows3 R) ∧ ∀ r ∈ R, BufW.Data w B r.1.2.2 r.2.1 r.2.2

theorem own_fr {w w' : World} {B base : Nat} {T : Obj → Prop} {e : TypeId} {s n : Nat} {v : Value} {xs : List Value} (h : w.ownsRow base e s v n xs) (hf : Fr B T w w') (hT : ∀ cs r, ¬ T (.cells cs e r)) : w'.ownsRow base e s v n xs :=
  ⟨h.1, h.2.imp id fun ⟨g, cap, cur, h1, h2, h3, h4⟩ => ⟨g, cap, cur, h1, h2, hf.keep g _ h3 (hT _ _), h4⟩⟩

section
variable {w w' : World} {B base : Nat} {e : TypeId} {v : Value} {its : List It}
theorem RowsAt.fr {T : Obj → Prop} (h : RowsAt w B base e v its) (hf : Fr B T w w') (hT : ∀ cs r, ¬ T (.cells cs e r)) (hu : ∀ cs r, ¬ T (.cells cs 5 r)) : RowsAt w' B base e v its := by
  obtain ⟨R, h1, h2, h3⟩ := h
  exact ⟨R, h1, own_fr h2 hf hT, fun r hr => (h3 r hr).fr hf hu⟩
theorem RowsAt.nil (w : World) (B base : Nat) (e : TypeId) : RowsAt w B base e (.slice none 0 0) [] := ⟨[], rfl, ⟨rfl, .inl ⟨rfl, rfl⟩⟩, fun r hr => (by cases hr)⟩
/-- How such a slice looks. -/
theorem RowsAt.form (h : RowsAt w B base e v its) : ∃ A c, v = .slice A its.length c ∧ its.length ≤ c ∧ its.length ≤ maxLen := by
  obtain ⟨R, h1, h2, h3⟩ := h
  rcases h2.2 with ⟨rfl, h0⟩ | ⟨g, cap, cur, rfl, hb, hh, hn, hm, -⟩
  · exact ⟨none, 0, by rw [h0], by omega, by omega⟩
  · exact ⟨_, cap, rfl, hn, by omega⟩
theorem dbase {w : World} {B B' : Nat} {l : List UInt8} {A : Option Addr} {c : Nat} (h : BufW.Data w B l A c) (hB : B ≤ B') : BufW.Data w B' l A c := ⟨h.1, h.2.1, h.2.2.1.imp id (fun d => d.base hB), h.2.2.2⟩
/-- The cells of item i. -/
theorem RowsAt.get (h : RowsAt w B base e v its) {i : Nat} {x : It} (hi : its[i]? = some x) :
    ∃ g c A ca, v = .slice (some ⟨g, 0, none⟩) its.length c ∧ w.cell? ⟨g, i * 3, none⟩ = some (.int .i64 x.1) ∧ w.cell? ⟨g, i * 3 + 1, none⟩ = some (.bool x.2.1) ∧ w.cell? ⟨g, i * 3 + 2, none⟩ = some (.slice A x.2.2.length ca) ∧ BufW.Data w B x.2.2 A ca ∧ base ≤ g ∧ g < w.heap.size := by
  obtain ⟨R, h1, h2, h3⟩ := h
  have hlt := (List.getElem?_eq_some_iff.1 hi).1
  have hR : ∃ r, R[i]? = some r ∧ r.1 = x := by
    rw [← h1, List.getElem?_map] at hi
    cases hr : R[i]? with
    | none => rw [hr] at hi; cases hi
    | some r => rw [hr] at hi; injection hi with hi; exact ⟨r, rfl, hi⟩
  obtain ⟨r, hr, rfl⟩ := hR
  obtain ⟨g, c, rfl, hb, hg⟩ := h2.form (by omega)
  obtain ⟨a0, a1, a2⟩ := rows3_at hr
  have hc := fun j u hu => h2.cells (g := g) rfl j u hu
  have k0 := hc _ _ a0
  have k1 := hc _ _ a1
  have k2 := hc _ _ a2
  rw [Addr.add_lit, Nat.zero_add] at k0 k1 k2
  exact ⟨g, c, r.2.1, r.2.2, rfl, k0, k1, k2, h3 r (List.mem_of_getElem? hr), hb, hg⟩
end

/-- The kind of a row of items. -/
def rowT (e : TypeId) : Obj → Prop
  | .cells _ t _ => t = e
  | _ => False
section
variable {w w' : World} {B base : Nat} {e t : TypeId} {v : Value} {its : List It}
theorem RowsAt.grown {B0 : Nat} (h : RowsAt w B base e v its) (hg : w.grownBy w' v.ownBlock) (hB : B0 ≤ w.heap.size) (hBb : B0 ≤ base) : Fr B0 (rowT e) w w' := by
  obtain ⟨R, h1, h2, h3⟩ := h
  refine Fr.row hg hB fun k hk => ?_
  refine ⟨Nat.le_trans hBb (h2.lt k hk).1, fun o ho => ?_⟩
  rcases h2.2 with ⟨rfl, -⟩ | ⟨g, cap, cur, rfl, -, hh, -⟩
  · cases hk
  · have : g = k := by simpa [Value.ownBlock] using hk
    subst this
    rw [hh] at ho
    injection ho with ho
    subst ho
    rfl

theorem dgrow {l : List UInt8} {A : Option Addr} {c : Nat} {b : Nat} (h : BufW.Data w B l A c) (hf : Fr b (rowT e) w w') (he : e ≠ 5) (hB : B ≤ b) : BufW.Data w' B l A c :=
  h.fr (hf.base hB) fun cs r h => he (Eq.symm h)
/-- 'append(l, x)' of one item x, the slice l the call's own. -/
theorem wpList_item {ops : Array Oper} {rest : List Oper} {o : Oper} {a : Act} {Q : Exit → Act → World → Prop} (hgd : o.guard = none) (s x : Operand)
    (ho : o.op = .call { callee := .builtin .append, args := #[s, x], argTypes := #[t, t] }) (ht : Try.prog.underlying t = some (.slice e))
    (hi : (Try.prog.info? e).map (fun i => (i.zero, i.size, i.bytes)) = some (some (.agg #[.int .i64 0, .bool false, .slice none 0 0]), 3, 40)) (he : e ≠ 5)
    (hs : a.eval s = v) (h : RowsAt w B base e v its) (y : It) (A : Option Addr) (c : Nat) (hd : BufW.Data w B y.2.2 A c) (gb cx : Nat) (hx : a.eval x = .slice (some ⟨gb, 0, none⟩) 1 cx)
    (hc : Bk w gb e (row3 (y, A, c)).toArray) (hl : its.length + 1 ≤ 3518437208883) (hB : B ≤ base) (hbase : base ≤ w.heap.size)
    (hK : ∀ (g cap : Nat) (w' : World), RowsAt w' B base e (.slice (some ⟨g, 0, none⟩) (its.length + 1) cap) (its ++ [y]) → Fr base (rowT e) w w' → wpList Try.prog ops Q rest (a.put o.dst (.slice (some ⟨g, 0, none⟩) (its.length + 1) cap)) w') : wpList Try.prog ops Q (o :: rest) a w := by
  have hF := fun w' hg => RowsAt.grown (B0 := base) (w' := w') h hg hbase (Nat.le_refl _)
  have hd' := hd
  obtain ⟨R, h1, h2, h3⟩ := h
  cases hii : Try.prog.info? e with
  | none => rw [hii] at hi; cases hi
  | some i =>
    rw [hii] at hi
    simp only [Option.map_some, Option.some.injEq, Prod.mk.injEq] at hi
    obtain ⟨hz, hsz, hby⟩ := hi
    refine wpList_append_lies w hgd s x t ho base e i _ 3 40 ht hii hz hsz hby rfl (by omega) v its.length (rows3 R) hs h2 ⟨gb, 0, none⟩ 1 cx (row3 (y, A, c)) hx rfl ?_ (row3_one _) (by omega) (by simp only [maxLen]; omega) (by omega) hbase _ rfl ?_
    · intro j u hu
      rw [Addr.add_lit, Nat.zero_add]
      exact hc.at_ (by simpa using hu)
    · intro g cap w5 ho5 hg5 hor hlt
      have f5 := hF w5 hg5
      refine hK g cap w5 ⟨R ++ [(y, A, c)], by simp [h1], by rw [rows3_append, rows3_one]; simpa using ho5, fun r hr => ?_⟩ f5
      rcases List.mem_append.1 hr with hr | hr
      · exact dgrow (h3 r hr) f5 he hB
      · have : r = (y, A, c) := by simpa using hr
        subst this
        exact dgrow hd' f5 he hB

/-- 'append(l, m...)' of two slices of items, l the call's own. -/
theorem wpList_items {ops : Array Oper} {rest : List Oper} {o : Oper} {a : Act} {Q : Exit → Act → World → Prop} {v2 : Value} {base2 : Nat} {its2 : List It} (hgd : o.guard = none) (s x : Operand)
    (ho : o.op = .call { callee := .builtin .append, args := #[s, x], argTypes := #[t, t] }) (ht : Try.prog.underlying t = some (.slice e))
    (hi : (Try.prog.info? e).map (fun i => (i.zero, i.size, i.bytes)) = some (some (.agg #[.int .i64 0, .bool false, .slice none 0 0]), 3, 40)) (he : e ≠ 5)
    (hs : a.eval s = v) (h : RowsAt w B base e v its) (hx : a.eval x = v2) (h' : RowsAt w B base2 e v2 its2) (hl : its.length + its2.length ≤ 3518437208883) (hB : B ≤ base) (hbase : base ≤ w.heap.size)
    (hK : ∀ (v' : Value) (w' : World), RowsAt w' B base e v' (its ++ its2) → Fr base (rowT e) w w' → wpList Try.prog ops Q rest (a.put o.dst v') w') : wpList Try.prog ops Q (o :: rest) a w := by
  have hF := fun w' hg => RowsAt.grown (B0 := base) (w' := w') h hg hbase (Nat.le_refl _)
  have hh := h
  obtain ⟨R, h1, h2, h3⟩ := h
  obtain ⟨R2, k1, k2, k3⟩ := h'
  cases hii : Try.prog.info? e with
  | none => rw [hii] at hi; cases hi
  | some i =>
    rw [hii] at hi
    simp only [Option.map_some, Option.some.injEq, Prod.mk.injEq] at hi
    obtain ⟨hz, hsz, hby⟩ := hi
    have hk2 := k2
    rcases k2.2 with ⟨rfl, h0⟩ | ⟨g, cap, cur, rfl, hb, hg, hnc, hm, hsc, htk⟩
    · have : its2 = [] := List.eq_nil_of_length_eq_zero h0
      subst this
      exact wpList_append_own_none hgd s x t ho base e i 3 ht hii v its.length (rows3 R) hs h2 hx (hK v w (by rw [List.append_nil]; exact hh) (Fr.refl _ _ _))
    · refine wpList_append_own w hgd s x t ho base e i _ 3 40 ht hii hz hsz hby rfl (by omega) v its.length (rows3 R) hs h2 ⟨g, 0, none⟩ its2.length cap (rows3 R2) hx hk2.1 (fun j u hu => hk2.cells (g := g) rfl j u hu) (rows3_onec R2) (by simp only [maxLen]; omega) (by omega) hbase ?_
      intro v' w5 ho5 hg5 _
      have f5 := hF w5 hg5
      refine hK v' w5 ⟨R ++ R2, by simp [h1, k1], by rw [rows3_append, List.length_append]; exact ho5, fun r hr => ?_⟩ f5
      rcases List.mem_append.1 hr with hr | hr
      · exact dgrow (h3 r hr) f5 he hB
      · exact dgrow (k3 r hr) f5 he hB

/-- '[]Item{}'. -/
theorem RowsAt.empty (w : World) (B : Nat) (e : TypeId) : RowsAt (w.alloc (.cells #[] e)) B w.heap.size e (.slice (some ⟨w.heap.size, 0, none⟩) 0 0) [] :=
  ⟨[], rfl, ⟨rfl, .inr ⟨w.heap.size, 0, #[], rfl, Nat.le_refl _, heap_alloc_new w _, Nat.le_refl _, Nat.zero_le _, rfl, rfl⟩⟩, fun r hr => (by cases hr)⟩
theorem RowsAt.base_ (h : RowsAt w B base e v its) {b' : Nat} (hb : b' ≤ base) : RowsAt w B b' e v its := by
  obtain ⟨R, h1, h2, h3⟩ := h
  exact ⟨R, h1, own_base h2 hb, h3⟩
theorem RowsAt.free (h : RowsAt w B base e v its) {g n c : Nat} (hv : v = .slice (some ⟨g, 0, none⟩) n c) (i : Nat) : w.frozen? ⟨g, i, none⟩ = false := by
  obtain ⟨R, h1, h2, h3⟩ := h
  rcases h2.2 with ⟨rfl, -⟩ | ⟨g', cap, cur, rfl, -, hh, -⟩
  · cases hv
  · injection hv with hv
    injection hv with hv
    injection hv with hv
    subst hv
    exact Bk.free (t := e) (cs := cur) hh i

/-- 'l[i] = x'. -/
theorem RowsAt.set (h : RowsAt w B base e v its) (he : e ≠ 5) {g n c : Nat} (hv : v = .slice (some ⟨g, 0, none⟩) n c) {i : Nat} (hi : i < its.length) (y : It) (A : Option Addr) (ca : Nat) (hd : BufW.Data w B y.2.2 A ca) (hB : B ≤ base) :
    RowsAt (((w.setCell ⟨g, i * 3, none⟩ (.int .i64 y.1)).setCell ⟨g, i * 3 + 1, none⟩ (.bool y.2.1)).setCell ⟨g, i * 3 + 2, none⟩ (.slice A y.2.2.length ca)) B base e v (its.set i y) ∧
    Fr base (rowT e) w (((w.setCell ⟨g, i * 3, none⟩ (.int .i64 y.1)).setCell ⟨g, i * 3 + 1, none⟩ (.bool y.2.1)).setCell ⟨g, i * 3 + 2, none⟩ (.slice A y.2.2.length ca)) := by
  obtain ⟨R, h1, h2, h3⟩ := h
  rcases h2.2 with ⟨rfl, -⟩ | ⟨g', cap, cur, rfl, hb, hh, hnc, hm, hsc, htk⟩
  · cases hv
  · injection hv with hv
    injection hv with hv
    injection hv with hv
    subst hv
    have b0 : Bk w g' e cur := hh
    have b1 := b0.put (i * 3) (.int .i64 y.1)
    have b2 := b1.put (i * 3 + 1) (.bool y.2.1)
    have b3 := b2.put (i * 3 + 2) (.slice A y.2.2.length ca)
    have f1 := Fr.set (T := rowT e) (p := ⟨g', i * 3, none⟩) b0 hb rfl (.int .i64 y.1)
    have f2 := Fr.set (T := rowT e) (p := ⟨g', i * 3 + 1, none⟩) b1 hb rfl (.bool y.2.1)
    have f3 := Fr.set (T := rowT e) (p := ⟨g', i * 3 + 2, none⟩) b2 hb rfl (.slice A y.2.2.length ca)
    have f := (f1.trans f2).trans f3
    have hR : R.length = its.length := by rw [← h1, List.length_map]
    refine ⟨⟨R.set i (y, A, ca), by rw [List.map_set, h1], ⟨by rw [rows3_len, List.length_set, List.length_set, hR], .inr ⟨g', cap, _, by rw [List.length_set], hb, b3, by rw [List.length_set]; exact hnc, hm, by simpa using hsc, ?_⟩⟩, fun r hr => ?_⟩, f⟩
    · rw [List.length_set]
      simp only [Array.toList_setIfInBounds, List.take_set, htk]
      exact rows3_set (y, A, ca) (by rw [hR]; exact hi)
    · rcases List.mem_or_eq_of_mem_set hr with hr | hr
      · exact dgrow (h3 r hr) f he hB
      · subst hr
        exact dgrow hd f he hB
end
end Go.Proofs.Ytndhmdengadmjaa.Items
