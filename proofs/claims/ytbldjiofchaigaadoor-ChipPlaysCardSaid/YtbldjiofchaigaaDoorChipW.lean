/- How a chip lies in memory. -/
import Derived.Test.YtbldjiofchaigaaDoorChipP
import Derived.Test.YtbldjiofchaigaaDoorCopy
set_option linter.unusedVariables false
namespace Go.Proofs.YtbldjiofchaigaaDoor.ChipW
open Go.RowKit ChipP CopyW

def ptr (k : Nat) : Value := .pointer (some ⟨k, 0, none⟩)
def errR (k : Int) : Value := .iface 51 (.int .i64 k)
/-- An error that may be none. -/
def errV (k : Int) : Value := if k = 0 then .nilIface else errR k
theorem errV_zero : errV 0 = .nilIface := if_pos rfl
theorem errV_ne {k : Int} (h : k ≠ 0) : errV k = errR k := if_neg h

def rowF (n : Nat) (f : Nat → Value) : Array Value := ((List.range n).map f).toArray
theorem rowF_at {n i : Nat} (f : Nat → Value) (h : i < n) : (rowF n f)[i]? = some (f i) := by simp [rowF, h]
theorem rowF_congr {n : Nat} {f h : Nat → Value} (e : ∀ i, i < n → f i = h i) : rowF n f = rowF n h := by
  unfold rowF
  congr 1
  exact List.map_congr_left fun i hi => e i (List.mem_range.1 hi)
theorem rowF_set (n i : Nat) (f : Nat → Value) (u : Value) : (rowF n f).setIfInBounds i u = rowF n (upd f i u) := by
  unfold rowF
  rw [List.setIfInBounds_toArray]
  congr 1
  apply List.ext_getElem?
  intro j
  rw [List.getElem?_set]
  by_cases h : i = j
  · subst h
    by_cases hl : i < n
    · simp [hl, upd]
    · simp [hl]
  · rw [if_neg h]
    have hj : ¬ j = i := fun e => h e.symm
    by_cases hl : j < n
    · simp [hl, upd, hj]
    · simp [hl]
def boxC (g : Geo) (bb : Nat) (off : Bool) : Array Value := #[.bool off, .int .i64 g.d, .int .i64 g.b, .int .i64 g.p, .int .i64 g.y, .slice (some ⟨bb, 0, none⟩) g.n g.n]
def pgs (g : Geo) (q : Nat) : Value := .slice (some ⟨q, 0, none⟩) g.y g.y
def bcell (g : Geo) (pb : Nat → Nat) (S : Nat → BS) (j : Nat) : Value :=
  if j % 4 = 0 then .slice (some ⟨pb (j / 4), 0, none⟩) g.p g.p else if j % 4 = 1 then .int .i64 (S (j / 4)).nx else if j % 4 = 2 then .int .i64 (S (j / 4)).wr else .bool (S (j / 4)).bad
theorem bcell0 (g : Geo) (pb : Nat → Nat) (S : Nat → BS) (k : Nat) : bcell g pb S (k * 4) = .slice (some ⟨pb k, 0, none⟩) g.p g.p := by
  unfold bcell
  rw [if_pos (by omega), show k * 4 / 4 = k from by omega]
theorem bcell1 (g : Geo) (pb : Nat → Nat) (S : Nat → BS) (k : Nat) : bcell g pb S (k * 4 + 1) = .int .i64 (S k).nx := by
  unfold bcell
  rw [if_neg (by omega), if_pos (by omega), show (k * 4 + 1) / 4 = k from by omega]
theorem bcell2 (g : Geo) (pb : Nat → Nat) (S : Nat → BS) (k : Nat) : bcell g pb S (k * 4 + 2) = .int .i64 (S k).wr := by
  unfold bcell
  rw [if_neg (by omega), if_neg (by omega), if_pos (by omega), show (k * 4 + 2) / 4 = k from by omega]
theorem bcell3 (g : Geo) (pb : Nat → Nat) (S : Nat → BS) (k : Nat) : bcell g pb S (k * 4 + 3) = .bool (S k).bad := by
  unfold bcell
  rw [if_neg (by omega), if_neg (by omega), if_neg (by omega), show (k * 4 + 3) / 4 = k from by omega]
/-- One block's cells anew. -/
theorem bcell_upd (g : Geo) (pb : Nat → Nat) (S : Nat → BS) (k : Nat) (b : BS) (n : Nat) (f : Nat → Value)
    (hf : ∀ j, j / 4 ≠ k → f j = bcell g pb S j) (f0 : f (k * 4) = .slice (some ⟨pb k, 0, none⟩) g.p g.p) (f1 : f (k * 4 + 1) = .int .i64 b.nx) (f2 : f (k * 4 + 2) = .int .i64 b.wr) (f3 : f (k * 4 + 3) = .bool b.bad) :
    rowF n f = rowF n (bcell g pb (upd S k b)) := by
  refine rowF_congr fun j _ => ?_
  by_cases h : j / 4 = k
  · obtain h' | h' | h' | h' : j = k * 4 ∨ j = k * 4 + 1 ∨ j = k * 4 + 2 ∨ j = k * 4 + 3 := by omega
    · rw [h', f0, bcell0]
    · rw [h', f1, bcell1, upd_eq]
    · rw [h', f2, bcell2, upd_eq]
    · rw [h', f3, bcell3, upd_eq]
  · rw [hf j h]
    unfold bcell
    rw [upd_ne _ _ _ _ h]

/-- What others have (O) stays. -/
structure Keep (O : Nat → Prop) (w w' : World) : Prop where
  low : Below 0 w w'
  same : ∀ j, O j → j < w.heap.size → w'.heap[j]? = w.heap[j]?
section
variable {O : Nat → Prop} {a b c w w' : World}
theorem Keep.refl (O : Nat → Prop) (w : World) : Keep O w w := ⟨Below.refl _ _, fun _ _ _ => rfl⟩
theorem Keep.size (h : Keep O w w') : w.heap.size ≤ w'.heap.size := h.low.size
theorem Keep.trans (h : Keep O a b) (k : Keep O b c) : Keep O a c := ⟨h.low.trans k.low, fun j hj hl => (k.same j hj (Nat.lt_of_lt_of_le hl h.size)).trans (h.same j hj hl)⟩
theorem Keep.of_below (h : Below w.heap.size w w') : Keep O w w' := ⟨h.mono (Nat.zero_le _), fun j _ hl => h.block j hl⟩
theorem Keep.drewN (h : Keep O a w) (n : Nat) : Keep O a (w.drewN n) := ⟨below_drewN h.low n, h.same⟩
theorem Keep.drew (h : Keep O a w) : Keep O a w.drew := ⟨h.low.drew, h.same⟩
theorem Keep.alloc (h : Keep O a w) (o : Obj) : Keep O a (w.alloc o) := h.trans (Keep.of_below ((Below.refl _ _).alloc (Nat.le_refl _) o))
theorem Keep.grown {r : Nat} (hg : w.grownBy w' (some r)) (hr : ¬ O r) : Keep O w w' :=
  ⟨⟨hg.os, hg.tape, hg.output, hg.size, fun k hk => absurd hk (Nat.not_lt_zero k)⟩, fun j hj hl => hg.block j hl (fun e => hr (by injection e with e; rw [← e]; exact hj))⟩
theorem Keep.set (w : World) {p : Addr} (hp : ¬ O p.block) (u : Value) : Keep O w (w.setCell p u) :=
  ⟨(Below.refl _ _).setCell (Nat.zero_le _) u, fun j hj _ => Below.heap_setCell w p u j (fun e => hp (e ▸ hj))⟩
theorem Keep.bk {g : Nat} {t : TypeId} {cs : Array Value} (h : Keep O w w') (hk : Bk w g t cs) (ho : O g) : Bk w' g t cs := (h.same g ho hk.lt).trans hk
theorem Keep.mono {O' : Nat → Prop} (h : Keep O w w') (ho : ∀ j, O' j → O j) : Keep O' w w' := ⟨h.low, fun j hj => h.same j (ho j hj)⟩
theorem Keep.below {B : Nat} (h : Keep O w w') (ho : ∀ j, j < B → O j) (hB : B ≤ w.heap.size) : Below B w w' :=
  ⟨h.low.os, h.low.tape, h.low.output, h.low.size, fun k hk => h.same k (ho k hk) (Nat.lt_of_lt_of_le hk hB)⟩
theorem Keep.rd {A : Option Addr} {xs : List Value} (h : Keep O w w') (hr : Rd w A xs) (ho : xs ≠ [] → ∀ ad, A = some ad → O ad.block) : Rd w' A xs := by
  by_cases hx : xs = []
  · exact .inl hx
  rcases hr with hr | ⟨b, off, rfl, hc⟩
  · exact absurd hr hx
  · refine .inr ⟨b, off, rfl, fun i u hu => ?_⟩
    have h1 := hc i u hu
    rw [World.cell?_of_block (w := w) (h.same b (ho hx _ rfl) (World.block_lt_of_cell? w _ h1)), h1]
end

/-- A chip: its box c, its blocks' array bb, each block's pages' array, each page. -/
structure ChipL (w : World) (O : Nat → Prop) (g : Geo) (s : St) (c bb : Nat) (pb : Nat → Nat) (qb : Nat → Nat → Nat) : Prop where
  box : Bk w c 41 (boxC g bb s.off)
  arr : Bk w bb 63 (rowF (g.n * 4) (bcell g pb s.blk))
  pgs : ∀ k, k < g.n → Bk w (pb k) 33 (rowF g.p (fun i => pgs g (qb k i)))
  pag : ∀ k i, k < g.n → i < g.p → ∃ tl : List Value, Bk w (qb k i) 5 (u8v ((s.blk k).pg i) ++ tl).toArray
  len : ∀ k i, k < g.n → i < g.p → ((s.blk k).pg i).length = g.y
  oc : ¬ O c
  ob : ¬ O bb
  op : ∀ k, k < g.n → ¬ O (pb k)
  oq : ∀ k i, k < g.n → i < g.p → ¬ O (qb k i)
  inj1 : ∀ k k', k < g.n → k' < g.n → pb k = pb k' → k = k'
  inj2 : ∀ k i k' i', k < g.n → i < g.p → k' < g.n → i' < g.p → qb k i = qb k' i' → k = k' ∧ i = i'
def ChipAt (w : World) (O : Nat → Prop) (c : Nat) (g : Geo) (s : St) : Prop := ∃ bb pb qb, ChipL w O g s c bb pb qb
section
variable {w w' : World} {O O' : Nat → Prop} {g : Geo} {s : St} {c bb : Nat} {pb : Nat → Nat} {qb : Nat → Nat → Nat}
theorem bk_ne {x y : Nat} {t e : TypeId} {cs ds : Array Value} (h1 : Bk w x t cs) (h2 : Bk w y e ds) (hne : t ≠ e) : x ≠ y := by
  intro h
  subst h
  unfold Bk at h1 h2
  rw [h1] at h2
  injection h2 with h2
  injection h2 with _ h3
  exact hne h3
/-- It lies on where all its blocks do. -/
theorem ChipL.keep (h : ChipL w O g s c bb pb qb) (hs : ∀ j, ¬ O j → j < w.heap.size → w'.heap[j]? = w.heap[j]?) : ChipL w' O g s c bb pb qb :=
  { h with
    box := (hs c h.oc h.box.lt).trans h.box
    arr := (hs bb h.ob h.arr.lt).trans h.arr
    pgs := fun k hk => (hs _ (h.op k hk) (h.pgs k hk).lt).trans (h.pgs k hk)
    pag := fun k i hk hi => by
      obtain ⟨tl, ht⟩ := h.pag k i hk hi
      exact ⟨tl, (hs _ (h.oq k i hk hi) ht.lt).trans ht⟩ }
theorem ChipL.below (h : ChipL w O g s c bb pb qb) (hb : Below w.heap.size w w') : ChipL w' O g s c bb pb qb := h.keep fun j _ hl => hb.block j hl
theorem ChipL.drewN (h : ChipL w O g s c bb pb qb) (n : Nat) : ChipL (w.drewN n) O g s c bb pb qb := h.keep fun _ _ _ => rfl
theorem ChipAt.below (h : ChipAt w O c g s) (hb : Below w.heap.size w w') : ChipAt w' O c g s := by
  obtain ⟨bb, pb, qb, h⟩ := h
  exact ⟨bb, pb, qb, h.below hb⟩
theorem ChipAt.drewN (h : ChipAt w O c g s) (n : Nat) : ChipAt (w.drewN n) O c g s := by
  obtain ⟨bb, pb, qb, h⟩ := h
  exact ⟨bb, pb, qb, h.drewN n⟩
theorem ChipAt.keep (h : ChipAt w O c g s) (hs : ∀ j, ¬ O j → j < w.heap.size → w'.heap[j]? = w.heap[j]?) : ChipAt w' O c g s := by
  obtain ⟨bb, pb, qb, h⟩ := h
  exact ⟨bb, pb, qb, h.keep hs⟩
/-- Others may have more that was not there. -/
theorem ChipAt.more (h : ChipAt w O c g s) (ho : ∀ j, O' j → O j ∨ w.heap.size ≤ j) : ChipAt w O' c g s := by
  obtain ⟨bb, pb, qb, h⟩ := h
  have key : ∀ j, ¬ O j → j < w.heap.size → ¬ O' j := fun j h1 h2 h3 => (ho j h3).elim h1 (fun h4 => by omega)
  exact ⟨bb, pb, qb, { h with
    oc := key _ h.oc h.box.lt
    ob := key _ h.ob h.arr.lt
    op := fun k hk => key _ (h.op k hk) (h.pgs k hk).lt
    oq := fun k i hk hi => by
      obtain ⟨tl, ht⟩ := h.pag k i hk hi
      exact key _ (h.oq k i hk hi) ht.lt }⟩
theorem ChipL.setOff (h : ChipL w O g s c bb pb qb) (v : Bool) : ChipL (w.setCell ⟨c, 0, none⟩ (.bool v)) O g { s with off := v } c bb pb qb :=
  { h with
    box := h.box.put 0 (.bool v)
    arr := h.arr.far (fun e => bk_ne h.arr h.box (by decide) e) _
    pgs := fun k hk => (h.pgs k hk).far (fun e => bk_ne (h.pgs k hk) h.box (by decide) e) _
    pag := fun k i hk hi => by
      obtain ⟨tl, ht⟩ := h.pag k i hk hi
      exact ⟨tl, ht.far (fun e => bk_ne ht h.box (by decide) e) _⟩ }
/-- A cell of a block's own numbers is set. -/
theorem ChipL.setB (h : ChipL w O g s c bb pb qb) (k j : Nat) (u : Value) (b : BS) (hp : b.pg = (s.blk k).pg)
    (hrow : rowF (g.n * 4) (upd (bcell g pb s.blk) j u) = rowF (g.n * 4) (bcell g pb (upd s.blk k b))) : ChipL (w.setCell ⟨bb, j, none⟩ u) O g { s with blk := upd s.blk k b } c bb pb qb :=
  have hpg : ∀ k', (upd s.blk k b k').pg = (s.blk k').pg := fun k' => by
    by_cases e : k' = k
    · rw [e, upd_eq, hp]
    · rw [upd_ne _ _ _ _ e]
  { h with
    box := h.box.far (fun e => bk_ne h.box h.arr (by decide) e) _
    arr := by
      have h1 := h.arr.put j u
      rw [rowF_set, hrow] at h1
      exact h1
    pgs := fun k hk => (h.pgs k hk).far (fun e => bk_ne (h.pgs k hk) h.arr (by decide) e) _
    pag := fun k i hk hi => by
      obtain ⟨tl, ht⟩ := h.pag k i hk hi
      rw [hpg]
      exact ⟨tl, ht.far (fun e => bk_ne ht h.arr (by decide) e) _⟩
    len := fun k i hk hi => by rw [hpg]; exact h.len k i hk hi }
theorem ChipL.setNx (h : ChipL w O g s c bb pb qb) (k v : Nat) : ChipL (w.setCell ⟨bb, k * 4 + 1, none⟩ (.int .i64 (v : Int))) O g { s with blk := upd s.blk k { s.blk k with nx := v } } c bb pb qb :=
  h.setB k _ _ _ rfl (bcell_upd g pb s.blk k _ _ _ (fun j hj => upd_ne _ _ _ _ (by omega)) (by rw [upd_ne _ _ _ _ (by omega), bcell0]) (upd_eq _ _ _) (by rw [upd_ne _ _ _ _ (by omega), bcell2]) (by rw [upd_ne _ _ _ _ (by omega), bcell3]))
theorem ChipL.setWr (h : ChipL w O g s c bb pb qb) (k v : Nat) : ChipL (w.setCell ⟨bb, k * 4 + 2, none⟩ (.int .i64 (v : Int))) O g { s with blk := upd s.blk k { s.blk k with wr := v } } c bb pb qb :=
  h.setB k _ _ _ rfl (bcell_upd g pb s.blk k _ _ _ (fun j hj => upd_ne _ _ _ _ (by omega)) (by rw [upd_ne _ _ _ _ (by omega), bcell0]) (by rw [upd_ne _ _ _ _ (by omega), bcell1]) (upd_eq _ _ _) (by rw [upd_ne _ _ _ _ (by omega), bcell3]))
theorem ChipL.setBad (h : ChipL w O g s c bb pb qb) (k : Nat) (v : Bool) : ChipL (w.setCell ⟨bb, k * 4 + 3, none⟩ (.bool v)) O g { s with blk := upd s.blk k { s.blk k with bad := v } } c bb pb qb :=
  h.setB k _ _ _ rfl (bcell_upd g pb s.blk k _ _ _ (fun j hj => upd_ne _ _ _ _ (by omega)) (by rw [upd_ne _ _ _ _ (by omega), bcell0]) (by rw [upd_ne _ _ _ _ (by omega), bcell1]) (by rw [upd_ne _ _ _ _ (by omega), bcell2]) (upd_eq _ _ _))
/-- A page is written. -/
theorem ChipL.setPage (h : ChipL w O g s c bb pb qb) {k i : Nat} (hk : k < g.n) (hi : i < g.p) (l : List UInt8) (tl : List Value) (hl : l.length = g.y) (hb : Bk w' (qb k i) 5 (u8v l ++ tl).toArray) (hg : w.grownBy w' (some (qb k i))) :
    ChipL w' O g { s with blk := upd s.blk k { s.blk k with pg := upd (s.blk k).pg i l } } c bb pb qb := by
  obtain ⟨tl0, h0⟩ := h.pag k i hk hi
  have far : ∀ {x : Nat} {t : TypeId} {cs : Array Value}, Bk w x t cs → x ≠ qb k i → Bk w' x t cs := fun hx hne => hx.grown hg (fun e => hne (by injection e))
  exact { h with
    box := far h.box (bk_ne h.box h0 (by decide))
    arr := by
      have h1 := far h.arr (bk_ne h.arr h0 (by decide))
      have e := bcell_upd g pb s.blk k { s.blk k with pg := upd (s.blk k).pg i l } (g.n * 4) (bcell g pb s.blk) (fun _ _ => rfl) (bcell0 ..) (bcell1 ..) (bcell2 ..) (bcell3 ..)
      rw [e] at h1
      exact h1
    pgs := fun k' hk' => far (h.pgs k' hk') (bk_ne (h.pgs k' hk') h0 (by decide))
    pag := fun k' i' hk' hi' => by
      by_cases e : k' = k
      · subst e
        simp only [upd_eq]
        by_cases e2 : i' = i
        · subst e2
          rw [upd_eq]
          exact ⟨tl, hb⟩
        · rw [upd_ne _ _ _ _ e2]
          obtain ⟨t2, h2⟩ := h.pag k' i' hk' hi'
          exact ⟨t2, far h2 (fun e3 => e2 (h.inj2 _ _ _ _ hk' hi' hk hi e3).2)⟩
      · simp only [upd_ne _ _ _ _ e]
        obtain ⟨t2, h2⟩ := h.pag k' i' hk' hi'
        exact ⟨t2, far h2 (fun e3 => e (h.inj2 _ _ _ _ hk' hi' hk hi e3).1)⟩
    len := fun k' i' hk' hi' => by
      by_cases e : k' = k
      · subst e
        simp only [upd_eq]
        by_cases e2 : i' = i
        · rw [e2, upd_eq, hl]
        · rw [upd_ne _ _ _ _ e2]
          exact h.len k' i' hk' hi'
      · simp only [upd_ne _ _ _ _ e]
        exact h.len k' i' hk' hi' }
/-- A block's pages are made anew. -/
theorem ChipL.setPages (h : ChipL w O g s c bb pb qb) {k : Nat} (hk : k < g.n) (q : Nat → Nat) (x : UInt8) (hO : ∀ j, O j → j < w.heap.size) (hp : Bk w' (pb k) 33 (rowF g.p (fun i => ChipW.pgs g (q i)))) (hq : ∀ i, i < g.p → w.heap.size ≤ q i ∧ ∃ tl : List Value, Bk w' (q i) 5 (u8v (List.replicate g.y x) ++ tl).toArray)
    (hi : ∀ i i', i < g.p → i' < g.p → q i = q i' → i = i') (hg : w.grownBy w' (some (pb k))) :
    ChipL w' O g { s with blk := upd s.blk k { s.blk k with pg := fun _ => List.replicate g.y x } } c bb pb (upd qb k q) := by
  have h0 := h.pgs k hk
  have far : ∀ {x : Nat} {t : TypeId} {cs : Array Value}, Bk w x t cs → x ≠ pb k → Bk w' x t cs := fun hx hne => hx.grown hg (fun e => hne (by injection e))
  have lt : ∀ k i, k < g.n → i < g.p → qb k i < w.heap.size := fun k i hk hi => by
    obtain ⟨tl, ht⟩ := h.pag k i hk hi
    exact ht.lt
  exact { h with
    box := far h.box (bk_ne h.box h0 (by decide))
    arr := by
      have h1 := far h.arr (bk_ne h.arr h0 (by decide))
      have e := bcell_upd g pb s.blk k { s.blk k with pg := fun _ => List.replicate g.y x } (g.n * 4) (bcell g pb s.blk) (fun _ _ => rfl) (bcell0 ..) (bcell1 ..) (bcell2 ..) (bcell3 ..)
      rw [e] at h1
      exact h1
    pgs := fun k' hk' => by
      by_cases e : k' = k
      · subst e
        rw [upd_eq]
        exact hp
      · rw [upd_ne _ _ _ _ e]
        exact far (h.pgs k' hk') (fun e3 => e (h.inj1 _ _ hk' hk e3))
    pag := fun k' i' hk' hi' => by
      by_cases e : k' = k
      · subst e
        simp only [upd_eq]
        exact (hq i' hi').2
      · simp only [upd_ne _ _ _ _ e]
        obtain ⟨t2, h2⟩ := h.pag k' i' hk' hi'
        exact ⟨t2, far h2 (bk_ne h2 h0 (by decide))⟩
    len := fun k' i' hk' hi' => by
      by_cases e : k' = k
      · subst e
        simp only [upd_eq]
        exact List.length_replicate
      · simp only [upd_ne _ _ _ _ e]
        exact h.len k' i' hk' hi'
    oq := fun k' i' hk' hi' => by
      by_cases e : k' = k
      · subst e
        rw [upd_eq]
        exact fun ho => by have := hO _ ho; have := (hq i' hi').1; omega
      · rw [upd_ne _ _ _ _ e]
        exact h.oq k' i' hk' hi'
    inj2 := fun k1 i1 k2 i2 hk1 hi1 hk2 hi2 => by
      by_cases e1 : k1 = k <;> by_cases e2 : k2 = k
      · subst e1; subst e2
        rw [upd_eq]
        exact fun e => ⟨rfl, hi _ _ hi1 hi2 e⟩
      · subst e1
        rw [upd_eq, upd_ne _ _ _ _ e2]
        intro e
        have := (hq i1 hi1).1
        have := lt k2 i2 hk2 hi2
        omega
      · subst e2
        rw [upd_eq, upd_ne _ _ _ _ e1]
        intro e
        have := (hq i2 hi2).1
        have := lt k1 i1 hk1 hi1
        omega
      · rw [upd_ne _ _ _ _ e1, upd_ne _ _ _ _ e2]
        exact h.inj2 k1 i1 k2 i2 hk1 hi1 hk2 hi2 }
end
end Go.Proofs.YtbldjiofchaigaaDoor.ChipW
