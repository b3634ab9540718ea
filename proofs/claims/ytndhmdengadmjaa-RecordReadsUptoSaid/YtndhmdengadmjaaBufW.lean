/- What a buffer is in memory; the walks of bytes.Clone, and of its list: cut, push, open. -/
import Derived.Test.YtndhmdengadmjaaIdMap
import Derived.Test.YtndhmdengadmjaaRing
import Derived.Test.YtndhmdengadmjaaBufPlain
import Derived.Test.YtndhmdengadmjaaBytes
set_option linter.unusedVariables false
namespace Go.Proofs.Ytndhmdengadmjaa.BufW
open Go.RowKit I64 IdMap Ring BufP

def ptr (x : Nat) : Value := .pointer (some ⟨x, 0, none⟩)
/-- The cells of a link. -/
def lcells (x : It) (A : Option Addr) (c p q : Nat) : Array Value := #[.int .i64 x.1, .bool x.2.1, .slice A x.2.2.length c, ptr p, ptr q]
/-- The slice of a link's data. -/
def Data (w : World) (B : Nat) (l : List UInt8) (A : Option Addr) (c : Nat) : Prop := l.length ≤ c ∧ l.length ≤ 140737488351232 ∧ (l = [] ∨ Dt w B 5 A) ∧ Rd w A (u8v l)
def EntAt (w : World) (B : Nat) (pv nx : Nat → Nat) (e : Nat × It) : Prop := B ≤ e.1 ∧ ∃ A c, Bk w e.1 58 (lcells e.2 A c (pv e.1) (nx e.1)) ∧ Data w B e.2.2.2 A c
def rcells (p q : Nat) : Array Value := #[.int .i64 0, .bool false, .slice none 0 0, ptr p, ptr q]
/-- The ring: its root r, those behind it. -/
structure RingAt (w : World) (B r : Nat) (E : List (Nat × It)) (nx pv : Nat → Nat) : Prop where
  root : Bk w r 60 (rcells (pv r) (nx r))
  low : B ≤ r
  ents : ∀ e ∈ E, EntAt w B pv nx e
  cyc : Cyc nx pv r (E.map (·.1))
  nodup : (r :: E.map (·.1)).Nodup

/-- The kinds of blocks that a buffer's calls write. -/
def ringT : Obj → Prop
  | .map _ _ => True
  | .cells _ t _ => t = 58 ∨ t = 60
  | _ => False
def linkT : Obj → Prop
  | .cells _ t _ => t = 58 ∨ t = 60
  | _ => False
theorem linkT_ring {o : Obj} (h : linkT o) : ringT o := by
  cases o <;> simp only [linkT, ringT] at h ⊢
  exact h
theorem not_u8 (cs : Array Value) (r : Nat × Nat) : ¬ ringT (.cells cs 5 r) := by simp only [ringT]; decide
theorem not_u8l (cs : Array Value) (r : Nat × Nat) : ¬ linkT (.cells cs 5 r) := by simp only [linkT]; decide

section
variable {w w' : World} {B r : Nat} {E : List (Nat × It)} {nx pv : Nat → Nat} {A : Option Addr} {c : Nat} {l : List UInt8}
theorem Data.fr {T : Obj → Prop} (h : Data w B l A c) (hf : Fr B T w w') (hT : ∀ cs r, ¬ T (.cells cs 5 r)) : Data w' B l A c := ⟨h.1, h.2.1, h.2.2.1.imp id (fun d => d.fr hf hT), by rcases h.2.2.1 with rfl | d; exact .inl rfl; exact d.rd h.2.2.2 hf hT⟩
theorem RingAt.lt (h : RingAt w B r E nx pv) {x : Nat} (hx : x ∈ r :: E.map (·.1)) : x < w.heap.size := by
  rcases List.mem_cons.1 hx with rfl | hx
  · exact h.root.lt
  · obtain ⟨e, he, rfl⟩ := List.mem_map.1 hx
    obtain ⟨-, A, c, hb, -⟩ := h.ents e he
    exact hb.lt
theorem RingAt.low_ (h : RingAt w B r E nx pv) {x : Nat} (hx : x ∈ r :: E.map (·.1)) : B ≤ x := by
  rcases List.mem_cons.1 hx with rfl | hx
  · exact h.low
  · obtain ⟨e, he, rfl⟩ := List.mem_map.1 hx
    exact (h.ents e he).1
theorem RingAt.fr {T : Obj → Prop} (h : RingAt w B r E nx pv) (hf : Fr B T w w') (hT : ∀ cs t r, T (.cells cs t r) → t ≠ 5 ∧ t ≠ 58 ∧ t ≠ 60) : RingAt w' B r E nx pv :=
  { h with
    root := hf.bk h.root fun ht => (hT _ _ _ ht).2.2 rfl
    ents := fun e he => by
      obtain ⟨h1, A, c, hb, hd⟩ := h.ents e he
      exact ⟨h1, A, c, hf.bk hb (fun ht => (hT _ _ _ ht).2.1 rfl), hd.fr hf fun cs r ht => (hT _ _ _ ht).1 rfl⟩ }
/-- What block x of the ring has behind its item. -/
theorem RingAt.get (h : RingAt w B r E nx pv) {x : Nat} (hx : x ∈ r :: E.map (·.1)) :
    w.cell? ⟨x, 3, none⟩ = some (ptr (pv x)) ∧ w.cell? ⟨x, 4, none⟩ = some (ptr (nx x)) ∧ w.frozen? ⟨x, 3, none⟩ = false ∧ w.frozen? ⟨x, 4, none⟩ = false ∧ ∃ t cs, Bk w x t cs ∧ linkT (.cells cs t (0, 0)) := by
  rcases List.mem_cons.1 hx with rfl | hx
  · exact ⟨h.root.at_ (i := 3) rfl, h.root.at_ (i := 4) rfl, h.root.free 3, h.root.free 4, _, _, h.root, .inr rfl⟩
  · obtain ⟨e, he, rfl⟩ := List.mem_map.1 hx
    obtain ⟨-, A, c, hb, -⟩ := h.ents e he
    exact ⟨hb.at_ (i := 3) rfl, hb.at_ (i := 4) rfl, hb.free 3, hb.free 4, _, _, hb, .inl rfl⟩
/-- Data are in no link. -/
theorem Data.set {p : Addr} {u : Value} {t : TypeId} {cs : Array Value} (h : Data w B l A c) (hb : Bk w p.block t cs) (hB : B ≤ p.block) (hl : linkT (.cells cs t (0, 0))) : Data (w.setCell p u) B l A c :=
  h.fr (Fr.set (T := linkT) hb hB hl u) not_u8l
end

/-- The heap's part of a ring, and nothing on how it is linked. -/
def Heap (w : World) (B r : Nat) (E : List (Nat × It)) (nx pv : Nat → Nat) : Prop := Bk w r 60 (rcells (pv r) (nx r)) ∧ B ≤ r ∧ ∀ e ∈ E, EntAt w B pv nx e
theorem Heap.fr {w w' : World} {B r : Nat} {E : List (Nat × It)} {nx pv : Nat → Nat} {T : Obj → Prop} (h : Heap w B r E nx pv) (hf : Fr B T w w') (hT : ∀ cs t r, T (.cells cs t r) → t ≠ 5 ∧ t ≠ 58 ∧ t ≠ 60) : Heap w' B r E nx pv :=
  ⟨hf.bk h.1 fun ht => (hT _ _ _ ht).2.2 rfl, h.2.1, fun e he => by
      obtain ⟨h1, A, c, hb, hd⟩ := h.2.2 e he
      exact ⟨h1, A, c, hf.bk hb (fun ht => (hT _ _ _ ht).2.1 rfl), hd.fr hf fun cs r ht => (hT _ _ _ ht).1 rfl⟩⟩
theorem lcells_nx (x : It) (A : Option Addr) (c p q q' : Nat) : (lcells x A c p q).setIfInBounds 4 (ptr q') = lcells x A c p q' := rfl
theorem lcells_pv (x : It) (A : Option Addr) (c p q p' : Nat) : (lcells x A c p q).setIfInBounds 3 (ptr p') = lcells x A c p' q := rfl
theorem rcells_nx (p q q' : Nat) : (rcells p q).setIfInBounds 4 (ptr q') = rcells p q' := rfl
theorem rcells_pv (p q p' : Nat) : (rcells p q).setIfInBounds 3 (ptr p') = rcells p' q := rfl
section
variable {w : World} {B r : Nat} {E : List (Nat × It)} {nx pv : Nat → Nat}
theorem Heap.blk (h : Heap w B r E nx pv) {x : Nat} (hx : x ∈ r :: E.map (·.1)) : B ≤ x ∧ ∃ t cs, Bk w x t cs ∧ linkT (.cells cs t (0, 0)) := by
  rcases List.mem_cons.1 hx with rfl | hx
  · exact ⟨h.2.1, _, _, h.1, .inr rfl⟩
  · obtain ⟨e, he, rfl⟩ := List.mem_map.1 hx
    obtain ⟨h1, A, c, hb, -⟩ := h.2.2 e he
    exact ⟨h1, _, _, hb, .inl rfl⟩
theorem Heap.setNx (h : Heap w B r E nx pv) {p : Nat} (hp : p ∈ r :: E.map (·.1)) (q : Nat) : Heap (w.setCell ⟨p, 4, none⟩ (ptr q)) B r E (upd nx p q) pv := by
  obtain ⟨hB, t, cs, hb, hl⟩ := h.blk hp
  refine ⟨?_, h.2.1, fun e he => ?_⟩
  · by_cases e : r = p
    · subst e
      rw [upd_same]
      have := h.1.put 4 (ptr q)
      rwa [rcells_nx] at this
    · rw [upd_ne _ _ _ e]; exact h.1.far e _
  · obtain ⟨h1, A, c, hk, hd⟩ := h.2.2 e he
    refine ⟨h1, A, c, ?_, hd.set hb hB hl⟩
    by_cases e2 : e.1 = p
    · subst e2
      rw [upd_same]
      have := hk.put 4 (ptr q)
      rwa [lcells_nx] at this
    · rw [upd_ne _ _ _ e2]; exact hk.far e2 _
theorem Heap.setPv (h : Heap w B r E nx pv) {p : Nat} (hp : p ∈ r :: E.map (·.1)) (q : Nat) : Heap (w.setCell ⟨p, 3, none⟩ (ptr q)) B r E nx (upd pv p q) := by
  obtain ⟨hB, t, cs, hb, hl⟩ := h.blk hp
  refine ⟨?_, h.2.1, fun e he => ?_⟩
  · by_cases e : r = p
    · subst e
      rw [upd_same]
      have := h.1.put 3 (ptr q)
      rwa [rcells_pv] at this
    · rw [upd_ne _ _ _ e]; exact h.1.far e _
  · obtain ⟨h1, A, c, hk, hd⟩ := h.2.2 e he
    refine ⟨h1, A, c, ?_, hd.set hb hB hl⟩
    by_cases e2 : e.1 = p
    · subst e2
      rw [upd_same]
      have := hk.put 3 (ptr q)
      rwa [lcells_pv] at this
    · rw [upd_ne _ _ _ e2]; exact hk.far e2 _
theorem RingAt.heap (h : RingAt w B r E nx pv) : Heap w B r E nx pv := ⟨h.root, h.low, h.ents⟩
theorem Heap.drew (h : Heap w B r E nx pv) : Heap w.drew B r E nx pv := h
end

/-- bytes.Clone. -/
theorem clone_any (A : Option Addr) (l : List UInt8) (n c : Nat) (w : World) (hn : n = l.length) (hm : n ≤ 140737488351232) (hr : Rd w A (u8v l)) :
    Calls Try.prog 23 #[.slice A n c] w fun e w' => ∃ D c', e = .returned (.slice D n c') ∧ (∀ B, Data w' B l D c') ∧ Below w.heap.size w w' ∧ (∀ ad, D = some ad → w.heap.size ≤ ad.block) := by
  have q22 : ∀ (w : World) (a : Option Addr) (n c n' c' : Nat), (binOp .eql 30 (.slice a n c) (.slice none n' c')).run Try.prog w = .ok (.bool a.isNone) w := fun w a n c n' c' => Lib.run_eql_slice_nil w _ _ a n c n' c' Try.underlying30
  cases A with
  | none =>
    have hl := hr.none_
    have hl0 : l = [] := by
      cases l with
      | nil => rfl
      | cons a l => simp [u8v] at hl
    subst hl0
    subst hn
    have HN := hide hr
    go_enter Try.func23, Try.ntmps23
    go_wp2_with fail
    go_ret
    exact ⟨none, 0, rfl, fun B => ⟨Nat.le_refl _, by simp, .inl rfl, .inl rfl⟩, Below.refl _ _, fun ad e => (by cases e)⟩
  | some ad =>
    have HN := hide hn
    have HM := hide hm
    have h0 := own_empty w
    have hr' := hr.alloc (.cells #[] 5)
    clear hn hm hr
    go_enter Try.func23, Try.ntmps23
    go_wp2_with (first | (refine wpList_app _ rfl _ _ rfl w.heap.size _ 0 [] rfl h0 _ _ _ l rfl HN.out hr' (by have := HM.out; omega) (by simp) ?_; intro A' c' w1 hc1 hw1 hb1) | fail)
    go_ret
    rw [List.nil_append] at hw1
    rw [Nat.zero_add] at hw1 hc1
    refine ⟨A', c', rfl, fun B => ⟨by rw [← HN.out]; exact hc1, by rw [← HN.out]; exact HM.out, .inr (Dt.of_own hw1), Rd.of_own hw1⟩, ?_, fun ad e => ?_⟩
    · exact ((Below.refl _ _).alloc (Nat.le_refl _) _).trans hb1
    · subst e
      exact (hw1.lt _ rfl).1

set_option maxHeartbeats 1000000 in
/-- x is cut. -/
theorem cut_any (B r : Nat) (l m : List (Nat × It)) (e : Nat × It) (nx pv : Nat → Nat) (w : World) (h : RingAt w B r (l ++ e :: m) nx pv) :
    Calls Try.prog 24 #[ptr e.1] w fun en w' => en = .returned (.tuple #[]) ∧ RingAt w' B r (l ++ m) (upd nx (pv e.1) (nx e.1)) (upd pv (nx e.1) (pv e.1)) ∧ Fr B linkT w w' ∧ EntAt w' B (upd pv (nx e.1) (pv e.1)) (upd nx (pv e.1) (nx e.1)) e ∧ e.1 ∉ r :: (l ++ m).map (·.1) := by
  have hids : (l ++ e :: m).map (·.1) = l.map (·.1) ++ e.1 :: m.map (·.1) := by simp
  have hnm := h.cyc
  rw [hids] at hnm
  obtain ⟨hnx, hpv⟩ := nx_mem hnm
  have hpm : pv e.1 ∈ r :: (l ++ e :: m).map (·.1) := by
    rw [hids]
    rcases List.mem_cons.1 hpv with h1 | h1
    · rw [h1]; simp
    · exact List.mem_cons_of_mem _ (List.mem_append_left _ h1)
  have hqm : nx e.1 ∈ r :: (l ++ e :: m).map (·.1) := by
    rw [hids, hnx]
    cases m with
    | nil => simp
    | cons a m => simp
  have hem : e.1 ∈ r :: (l ++ e :: m).map (·.1) := by rw [hids]; simp
  obtain ⟨e1, e2, -, -, -⟩ := h.get hem
  obtain ⟨-, p2, -, p4, tp, cp, pb, plk⟩ := h.get hpm
  obtain ⟨q1, -, q3, -, tq, cq, qb, qlk⟩ := h.get hqm
  have pB := h.low_ hpm
  have qB := h.low_ hqm
  have hE : e.1 ∉ r :: (l ++ m).map (·.1) := by
    have hn := h.nodup
    rw [hids] at hn
    have hn2 : (e.1 :: (r :: (l.map (·.1) ++ m.map (·.1)))).Nodup := by
      refine (List.Perm.nodup_iff ?_).1 hn
      exact (List.perm_middle.cons r).trans (List.Perm.swap _ _ _)
    rw [List.map_append]
    exact (List.nodup_cons.1 hn2).1
  have H := hide h
  have HP := hide hpm
  have HQ := hide hqm
  have HE := hide hE
  have HB := hide (And.intro pb plk)
  have HB2 := hide (And.intro qb qlk)
  obtain ⟨x, hx⟩ : ∃ x, x = e.1 := ⟨_, rfl⟩
  obtain ⟨p, hp⟩ : ∃ p, p = pv e.1 := ⟨_, rfl⟩
  obtain ⟨q, hq⟩ : ∃ q, q = nx e.1 := ⟨_, rfl⟩
  have HX := hide hx
  have HPP := hide hp
  have HQQ := hide hq
  rw [← hp] at e1 p2 p4 pb pB
  rw [← hq] at e2 q1 q3 qb qB
  rw [← hp, ← hq, ← hx]
  rw [← hx] at e1 e2
  clear h hids hnm hnx hpv hpm hqm hem hE plk qlk hx hp hq pb qb
  unfold ptr at e1 e2 p2 q1
  unfold ptr
  go_enter Try.func24, Try.ntmps24
  go_wp2_with fail
  go_region
  all_goals go_end0
  all_goals (
    rw [HPP.out, HQQ.out, HX.out]
    have h1 := (H.out.heap.setNx HP.out (nx e.1)).setPv HQ.out (pv e.1)
    have f1 : Fr B linkT w (w.setCell ⟨pv e.1, 4, none⟩ (ptr (nx e.1))) := Fr.set (p := ⟨pv e.1, 4, none⟩) HB.out.1 (by rw [← HPP.out]; exact pB) HB.out.2 _
    obtain ⟨hqB, t2, c2, qb2, ql2⟩ := (H.out.heap.setNx HP.out (nx e.1)).blk HQ.out
    have f2 := Fr.set (T := linkT) (p := ⟨nx e.1, 3, none⟩) qb2 hqB ql2 (ptr (pv e.1))
    have hids : (l ++ e :: m).map (·.1) = l.map (·.1) ++ e.1 :: m.map (·.1) := by simp
    have hcut := Ring.cut (x := e.1) (by have := H.out.cyc; rw [hids] at this; exact this) (by have := H.out.nodup; rw [hids] at this; exact this)
    refine ⟨rfl, ?_, (f1.trans f2).drew, h1.2.2 e (by simp), HE.out⟩
    exact { root := h1.1, low := h1.2.1, ents := fun y hy => h1.2.2 y (by rcases List.mem_append.1 hy with h | h; exact List.mem_append_left _ h; exact List.mem_append_right _ (List.mem_cons_of_mem _ h)),
            cyc := by rw [List.map_append]; exact hcut,
            nodup := (((List.Sublist.refl _).append (List.sublist_cons_self e m)).map _ |>.cons_cons r).nodup H.out.nodup })

theorem RingAt.grow {w : World} {B r n p : Nat} {E : List (Nat × It)} {nx pv : Nat → Nat} {x : It} {A : Option Addr} {c : Nat} (h : RingAt w B r E nx pv) (hk : Bk w n 58 (lcells x A c p r)) (hd : Data w B x.2.2 A c) (hB : B ≤ n)
    (hn : n ∉ r :: E.map (·.1)) : Heap w B r (E ++ [(n, x)]) (upd nx n r) (upd pv n p) := by
  have hr : r ≠ n := fun e => hn (by simp [e])
  refine ⟨by rw [upd_ne _ _ _ hr, upd_ne _ _ _ hr]; exact h.root, h.low, fun e he => ?_⟩
  rcases List.mem_append.1 he with he | he
  · have hne : e.1 ≠ n := fun e2 => hn (List.mem_cons_of_mem _ (e2 ▸ List.mem_map_of_mem he))
    unfold EntAt
    rw [upd_ne _ _ _ hne, upd_ne _ _ _ hne]
    exact h.ents e he
  · have : e = (n, x) := by simpa using he
    subst this
    refine ⟨hB, A, c, ?_, hd⟩
    rw [upd_same, upd_same]
    exact hk

theorem not_item (cs : Array Value) (t : TypeId) (r : Nat × Nat) (h : t = 40) : t ≠ 5 ∧ t ≠ 58 ∧ t ≠ 60 := by subst h; decide
def never : Obj → Prop := fun _ => False

set_option maxHeartbeats 1000000 in
/-- An item is put behind the last. -/
theorem push_any (B r : Nat) (E : List (Nat × It)) (nx pv : Nat → Nat) (x : It) (A : Option Addr) (c : Nat) (w : World) (h : RingAt w B r E nx pv) (hd : Data w B x.2.2 A c) :
    Calls Try.prog 31 #[ptr r, .agg #[.int .i64 x.1, .bool x.2.1, .slice A x.2.2.length c]] w fun en w' => ∃ n nx' pv', en = .returned (ptr n) ∧ RingAt w' B r (E ++ [(n, x)]) nx' pv' ∧ Fr B linkT w w' := by
  have hBw : B ≤ w.heap.size := Nat.le_trans h.low (Nat.le_of_lt h.root.lt)
  obtain ⟨AA, hAA⟩ := pv_root h.cyc
  have hpm : pv r ∈ r :: E.map (·.1) := by rw [hAA]; simp
  have hrm : r ∈ r :: E.map (·.1) := by simp
  have f1 : Fr B never w (w.alloc (.cells #[.int .i64 x.1, .bool x.2.1, .slice A x.2.2.length c] 40)) := (Fr.refl _ _ _).alloc hBw _
  have R1 := h.fr f1 (fun _ _ _ ht => ht.elim)
  have hd1 := hd.fr f1 (fun _ _ ht => ht)
  have k1 : Bk (w.alloc (.cells #[.int .i64 x.1, .bool x.2.1, .slice A x.2.2.length c] 40)) w.heap.size 40 #[.int .i64 x.1, .bool x.2.1, .slice A x.2.2.length c] := Bk.new _ _ _
  obtain ⟨w1, hw1⟩ : ∃ w1, w1 = w.alloc (.cells #[.int .i64 x.1, .bool x.2.1, .slice A x.2.2.length c] 40) := ⟨_, rfl⟩
  rw [← hw1] at f1 R1 hd1 k1
  have hs1 : w1.heap.size = w.heap.size + 1 := by rw [hw1]; simp
  have f2 : Fr B never w1 (w1.alloc (.cells (lcells x A c (pv r) r) 58)) := (Fr.refl _ _ _).alloc (Nat.le_trans hBw f1.size) _
  have R2 := R1.fr f2 (fun _ _ _ ht => ht.elim)
  have hd2 := hd1.fr f2 (fun _ _ ht => ht)
  have k2 : Bk (w1.alloc (.cells (lcells x A c (pv r) r) 58)) w1.heap.size 58 (lcells x A c (pv r) r) := Bk.new _ _ _
  obtain ⟨-, p2, -, p4, tp, cp, pb, plk⟩ := R2.get hpm
  obtain ⟨q1, -, q3, -, tq, cq, qb, qlk⟩ := R2.get hrm
  obtain ⟨r1, -⟩ := R1.get hrm
  have n3 := k2.at_ (i := 3) (u := ptr (pv r)) rfl
  have n4 := k2.at_ (i := 4) (u := ptr r) rfl
  have hlt := R1.lt hpm
  have hlr := R1.lt hrm
  have hne : pv r ≠ w1.heap.size := by omega
  have hne2 : r ≠ w1.heap.size := by omega
  have i0 := k1.at_ (i := 0) (u := .int .i64 x.1) rfl
  have i1 := k1.at_ (i := 1) (u := .bool x.2.1) rfl
  have i2 := k1.at_ (i := 2) (u := .slice A x.2.2.length c) rfl
  have HB := hide (And.intro hpm (And.intro f1 f2))
  have R2' := hide R2
  have R1' := hide R1
  have HD2 := hide hd2
  have HK2 := hide k2
  have HBw := hide hBw
  have HH := hide h
  have HS := hide hs1
  obtain ⟨y0, y1, l⟩ := x
  obtain ⟨p, hp⟩ : ∃ p, p = pv r := ⟨_, rfl⟩
  have HP := hide hp
  rw [← hp] at r1 p2 p4 q1 q3 n3 n4 hne
  have e : lcells (y0, y1, l) A c p r = #[.int .i64 y0, .bool y1, .slice A l.length c, .pointer (some ⟨p, 0, none⟩), .pointer (some ⟨r, 0, none⟩)] := rfl
  have HE := hide e
  rw [e] at p2 p4 q1 q3 n3 n4
  clear hpm hrm hAA f1 f2 R1 R2 hd1 hd2 k1 k2 hBw h hd hs1 hp pb plk qb qlk hlt hlr e
  unfold ptr at p2 q1 r1 n3 n4
  unfold ptr
  go_enter Try.func31, Try.ntmps31
  go_wp2_with fail
  have HW := hide hw1
  rw [← hw1]
  obtain ⟨B0, hB0⟩ : ∃ B0, B0 = w.heap.size := ⟨_, rfl⟩
  rw [← hB0] at i0 i1 i2 ⊢
  clear hB0 hw1
  go_region
  all_goals (go_wp2_with fail)
  all_goals go_region
  all_goals (go_wp2_with fail; go_ret)
  all_goals (
    rw [← HE.out, HP.out]
    have hnn : w1.heap.size ∉ r :: E.map (·.1) := fun hm => by
      have := HH.out.lt hm
      have := HS.out
      omega
    have g0 := R2'.out.grow HK2.out HD2.out (Nat.le_trans HBw.out HB.out.2.1.size) hnn
    have hpm : pv r ∈ r :: (E ++ [(w1.heap.size, (y0, y1, l))]).map (·.1) := by
      have := HB.out.1
      rw [List.map_append, ← List.cons_append]
      exact List.mem_append_left _ this
    have g1 := (g0.setNx hpm w1.heap.size)
    obtain ⟨b1, t1, c1, k1, l1⟩ := g0.blk hpm
    obtain ⟨b2, t2, c2, k2, l2⟩ := g1.blk (x := r) (by simp)
    have g2 := g1.setPv (p := r) (by simp) w1.heap.size
    have h1 := Fr.set (T := linkT) (p := ⟨pv r, 4, none⟩) k1 b1 l1 (ptr w1.heap.size)
    have h2 := Fr.set (T := linkT) (p := ⟨r, 3, none⟩) k2 b2 l2 (ptr w1.heap.size)
    refine ⟨w1.heap.size, upd (upd nx w1.heap.size r) (pv r) w1.heap.size, upd (upd pv w1.heap.size (pv r)) r w1.heap.size, rfl, ?_, (((HB.out.2.1.mono fun _ h => h.elim).trans (HB.out.2.2.mono fun _ h => h.elim)).trans (h1.trans h2)).drew.drew⟩
    exact { root := g2.1, low := g2.2.1, ents := g2.2.2, cyc := by { rw [List.map_append]; exact Ring.push HH.out.cyc HH.out.nodup hnn },
            nodup := by
              rw [List.map_append, ← List.cons_append, List.nodup_append]
              refine ⟨HH.out.nodup, by simp, fun a ha b hb => ?_⟩
              have : b = w1.heap.size := by simpa using hb
              subst this
              exact fun e => hnn (e ▸ ha) })

set_option maxHeartbeats 1000000 in
theorem open_any (B r : Nat) (w : World) (h : Bk w r 60 #[.int .i64 0, .bool false, .slice none 0 0, .pointer none, .pointer none]) (hB : B ≤ r) :
    Calls Try.prog 21 #[ptr r] w fun en w' => en = .returned (ptr r) ∧ Bk w' r 60 (rcells r r) ∧ Fr B linkT w w' := by
  have H := hide h
  have HB := hide hB
  have c3 := h.at_ (i := 3) rfl
  have c4 := h.at_ (i := 4) rfl
  have f3 := h.free 3
  have f4 := h.free 4
  clear h hB
  unfold ptr
  go_enter Try.func21, Try.ntmps21
  go_wp2_with fail
  go_region
  all_goals (go_wp2_with fail; go_ret)
  all_goals (
    have k1 := H.out.put 3 (ptr r)
    have k2 := k1.put 4 (ptr r)
    have h1 := Fr.set (T := linkT) (p := ⟨r, 3, none⟩) H.out HB.out (.inr rfl) (ptr r)
    have h2 := Fr.set (T := linkT) (p := ⟨r, 4, none⟩) k1 HB.out (.inr rfl) (ptr r)
    exact ⟨rfl, k2, (h1.trans h2).drew⟩)

/-- A buffer in block g. -/
def BufAt (w : World) (B g : Nat) (most : Int) (L : List It) : Prop :=
  ∃ r m E nx pv, Bk w g 64 #[.int .i64 most, ptr r, .map (some m)] ∧ B ≤ m ∧ RingAt w B r E nx pv ∧ MapAt w m L.length (fun k => (E.find? fun e => decide (e.2.1 = k)).map (·.1)) ∧ E.map (·.2) = L ∧
    Once L ∧ (L.length : Int) ≤ most ∧ most ≤ 16 ∧ (∀ x ∈ L, 0 ≤ x.1 ∧ x.1 ≤ 9223372036854775807)

theorem BufAt.fr {w w' : World} {B g : Nat} {most : Int} {L : List It} {T : Obj → Prop} (h : BufAt w B g most L) (hf : Fr B T w w')
    (hT : ∀ o, T o → ∃ cs t r, o = .cells cs t r ∧ t ≠ 5 ∧ t ≠ 58 ∧ t ≠ 60 ∧ t ≠ 64) : BufAt w' B g most L := by
  obtain ⟨r, m, E, nx, pv, h1, h2, h3, h4, h5⟩ := h
  refine ⟨r, m, E, nx, pv, hf.bk h1 ?_, h2, h3.fr hf ?_, h4.fr hf ?_, h5⟩
  · intro ht
    obtain ⟨_, _, _, e, -, -, -, h⟩ := hT _ ht
    injection e with _ e
    exact h e.symm
  · intro cs t q ht
    obtain ⟨_, _, _, e, ha, hb, hc, -⟩ := hT _ ht
    injection e with _ e
    exact ⟨e ▸ ha, e ▸ hb, e ▸ hc⟩
  · intro es clock ht
    obtain ⟨_, _, _, e, -⟩ := hT _ ht
    cases e
theorem BufAt.below {w w' : World} {B g : Nat} {most : Int} {L : List It} (h : BufAt w B g most L) (hb : Below w.heap.size w w') : BufAt w' B g most L := by
  have hB : B ≤ w.heap.size := by
    obtain ⟨r, m, E, nx, pv, h1, h2, h3, h4, h5⟩ := h
    exact Nat.le_trans h3.low (Nat.le_of_lt h3.root.lt)
  exact h.fr (Fr.of_below (T := never) hb hB) fun o ho => ho.elim
theorem BufAt.low {w : World} {B g : Nat} {most : Int} {L : List It} (h : BufAt w B g most L) : B ≤ w.heap.size := by
  obtain ⟨r, m, E, nx, pv, h1, h2, h3, h4, h5⟩ := h
  exact Nat.le_trans h3.low (Nat.le_of_lt h3.root.lt)

/-- buffer.Len. -/
theorem len_any (B g : Nat) (most : Int) (L : List It) (w : World) (h : BufAt w B g most L) :
    Calls Try.prog 13 #[ptr g] w fun e w' => e = .returned (.int .i64 (L.length : Nat)) ∧ w' = w := by
  obtain ⟨r, m, E, nx, pv, h1, h2, h3, h4, h5⟩ := h
  have c2 := h1.at_ (i := 2) rfl
  have hlen := fun ty => len_run h4 ty
  clear h1 h2 h3 h4 h5
  unfold ptr
  go_enter Try.func13, Try.ntmps13
  go_wp2_with fail
  go_ret
  exact ⟨rfl, rfl⟩
end Go.Proofs.Ytndhmdengadmjaa.BufW
