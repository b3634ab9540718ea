/- A ring of links, told by the list of those in it: plain laws on what is next and what is ahead. -/
import Derived.WalkKit
namespace Go.Proofs.Ytndhmdengadmjaa.Ring

def upd (f : Nat → Nat) (a b : Nat) : Nat → Nat := fun x => if x = a then b else f x
theorem upd_same (f : Nat → Nat) (a b : Nat) : upd f a b a = b := by simp [upd]
theorem upd_ne (f : Nat → Nat) (a b : Nat) {x : Nat} (h : x ≠ a) : upd f a b x = f x := by simp [upd, h]

/-- Whoever stand next to each other on the list know each other. -/
def Links (nx pv : Nat → Nat) : List Nat → Prop
  | [] => True
  | [_] => True
  | a :: b :: l => nx a = b ∧ pv b = a ∧ Links nx pv (b :: l)

theorem links_append {nx pv : Nat → Nat} : ∀ (A : List Nat) (p : Nat) (B : List Nat), Links nx pv (A ++ p :: B) ↔ Links nx pv (A ++ [p]) ∧ Links nx pv (p :: B)
  | [], p, B => by simp [Links]
  | [a], p, B => by simp [Links, and_assoc]
  | a :: b :: A, p, B => by
    have := links_append (nx := nx) (pv := pv) (b :: A) p B
    simp only [List.cons_append] at this
    simp only [List.cons_append, Links, this, and_assoc]

theorem links_congr {nx pv nx' pv' : Nat → Nat} : ∀ (l : List Nat), Links nx pv l → (∀ x ∈ l.dropLast, nx' x = nx x) → (∀ x ∈ l.tail, pv' x = pv x) → Links nx' pv' l
  | [], _, _, _ => trivial
  | [_], _, _, _ => trivial
  | a :: b :: l, ⟨h1, h2, h3⟩, hn, hp => by
    refine ⟨(hn a (by simp)).trans h1, (hp b (by simp)).trans h2, links_congr (b :: l) h3 (fun x hx => hn x ?_) (fun x hx => hp x ?_)⟩
    · simp only [List.dropLast_cons_cons] at hx ⊢
      exact List.mem_cons_of_mem _ hx
    · simp only [List.tail_cons] at hx ⊢
      exact List.mem_cons_of_mem _ hx

/-- The ring: a root and those behind it. -/
def Cyc (nx pv : Nat → Nat) (r : Nat) (ids : List Nat) : Prop := Links nx pv (r :: ids ++ [r])

theorem snoc_of (a : Nat) (l : List Nat) : ∃ A p, a :: l = A ++ [p] := by
  rcases List.eq_nil_or_concat (a :: l) with h | ⟨A, p, h⟩
  · cases h
  · exact ⟨A, p, by simpa using h⟩

/-- Two parts of a ring, closed up behind each other. -/
theorem join {nx pv : Nat → Nat} {r p q : Nat} {l m C : List Nat} {A : List Nat} (hl : Links nx pv (r :: l)) (hm : Links nx pv (m ++ [r])) (hp : r :: l = A ++ [p]) (hq : m ++ [r] = q :: C) (hnd : (r :: l ++ m).Nodup) :
    Cyc (upd nx p q) (upd pv q p) r (l ++ m) := by
  have e : r :: (l ++ m) ++ [r] = A ++ p :: (q :: C) := by
    rw [← List.cons_append, List.append_assoc, hp, hq, List.append_assoc]; rfl
  unfold Cyc
  rw [e, links_append, ← hp]
  have hpl : p ∈ r :: l := hp ▸ (by simp)
  rw [List.nodup_append] at hnd
  obtain ⟨h1, h2, h3⟩ := hnd
  refine ⟨links_congr _ hl (fun x hx => upd_ne _ _ _ ?_) (fun x hx => upd_ne _ _ _ ?_), ?_⟩
  · rintro rfl
    rw [hp, List.dropLast_concat] at hx
    rw [hp, List.nodup_append] at h1
    exact h1.2.2 x hx x (by simp) rfl
  · rintro rfl
    rw [List.tail_cons] at hx
    have hqm : x ∈ m ++ [r] := by rw [hq]; simp
    rcases List.mem_append.1 hqm with h | h
    · exact h3 x (List.mem_cons_of_mem _ hx) x h rfl
    · have : x = r := by simpa using h
      subst this
      exact (List.nodup_cons.1 h1).1 hx
  · refine ⟨upd_same _ _ _, upd_same _ _ _, ?_⟩
    rw [← hq]
    refine links_congr _ hm (fun x hx => upd_ne _ _ _ ?_) (fun x hx => upd_ne _ _ _ ?_)
    · rintro rfl
      rw [List.dropLast_concat] at hx
      exact h3 x hpl x hx rfl
    · rintro rfl
      rw [hq, List.tail_cons] at hx
      have hnm : (m ++ [r]).Nodup := by
        rw [List.nodup_append]
        refine ⟨h2, by simp, fun a ha b hb => ?_⟩
        have : b = r := by simpa using hb
        subst this
        exact fun e => h3 b (by simp) a ha e.symm
      rw [hq] at hnm
      exact (List.nodup_cons.1 hnm).1 hx

theorem cyc_open {nx pv : Nat → Nat} {r x : Nat} {l m : List Nat} (h : Cyc nx pv r (l ++ x :: m)) : Links nx pv (r :: l) ∧ Links nx pv (m ++ [r]) ∧ ∃ A p q C, r :: l = A ++ [p] ∧ m ++ [r] = q :: C ∧ pv x = p ∧ nx x = q := by
  unfold Cyc at h
  obtain ⟨A, p, hp⟩ := snoc_of r l
  obtain ⟨q, C, hq⟩ : ∃ q C, m ++ [r] = q :: C := by
    cases m with
    | nil => exact ⟨r, [], rfl⟩
    | cons a m => exact ⟨a, m ++ [r], rfl⟩
  have e : r :: (l ++ x :: m) ++ [r] = A ++ p :: (x :: q :: C) := by
    rw [← hq]
    have : r :: (l ++ x :: m) ++ [r] = (r :: l) ++ (x :: (m ++ [r])) := by simp
    rw [this, hp]; simp
  rw [e, links_append, ← hp] at h
  obtain ⟨h1, -, h2, h3⟩ := h
  exact ⟨h1, by rw [hq]; exact h3.2.2, A, p, q, C, hp, hq, h2, h3.1⟩

/-- x is cut out of the ring. -/
theorem cut {nx pv : Nat → Nat} {r x : Nat} {l m : List Nat} (h : Cyc nx pv r (l ++ x :: m)) (hnd : (r :: (l ++ x :: m)).Nodup) : Cyc (upd nx (pv x) (nx x)) (upd pv (nx x) (pv x)) r (l ++ m) := by
  obtain ⟨h1, h2, A, p, q, C, hp, hq, e1, e2⟩ := cyc_open h
  rw [e1, e2]
  refine join h1 h2 hp hq ?_
  have : (r :: l ++ m).Sublist (r :: (l ++ x :: m)) := by
    rw [List.cons_append]
    exact ((List.Sublist.refl l).append (List.sublist_cons_self x m)).cons_cons r
  exact this.nodup hnd

theorem pv_root {nx pv : Nat → Nat} {r : Nat} {ids : List Nat} (h : Cyc nx pv r ids) : ∃ A, r :: ids = A ++ [pv r] := by
  obtain ⟨A, p, hp⟩ := snoc_of r ids
  unfold Cyc at h
  have e : r :: ids ++ [r] = A ++ p :: [r] := by rw [hp]; simp
  rw [e, links_append] at h
  exact ⟨A, by rw [h.2.2.1]; exact hp⟩
theorem nx_root {nx pv : Nat → Nat} {r : Nat} {ids : List Nat} (h : Cyc nx pv r ids) : nx r = ids.headD r := by
  unfold Cyc at h
  cases ids with
  | nil => exact h.1
  | cons a l => exact h.1
theorem nx_mem {nx pv : Nat → Nat} {r x : Nat} {l m : List Nat} (h : Cyc nx pv r (l ++ x :: m)) : nx x = m.headD r ∧ pv x ∈ r :: l := by
  obtain ⟨-, -, A, p, q, C, hp, hq, e1, e2⟩ := cyc_open h
  constructor
  · rw [e2]
    cases m with
    | nil => simp at hq; exact hq.1.symm
    | cons a m => simp at hq; exact hq.1.symm
  · rw [e1, hp]; simp

/-- A new one is put behind the last. -/
theorem push {nx pv : Nat → Nat} {r x : Nat} {ids : List Nat} (h : Cyc nx pv r ids) (hnd : (r :: ids).Nodup) (hx : x ∉ r :: ids) : Cyc (upd (upd nx x r) (pv r) x) (upd (upd pv x (pv r)) r x) r (ids ++ [x]) := by
  obtain ⟨A, hA⟩ := pv_root h
  have hxr : x ≠ r := fun e => hx (by simp [e])
  have hxp : x ≠ pv r := fun e => hx (by rw [hA, ← e]; simp)
  -- the ring r :: ids, and the part x :: [r]
  have h1 : Links nx pv (r :: ids) := by
    unfold Cyc at h
    have e : r :: ids ++ [r] = A ++ pv r :: [r] := by rw [hA]; simp
    rw [e, links_append, ← hA] at h
    exact h.1
  unfold Cyc
  have e : r :: (ids ++ [x]) ++ [r] = A ++ pv r :: (x :: [r]) := by
    have : r :: (ids ++ [x]) ++ [r] = (r :: ids) ++ (x :: [r]) := by simp
    rw [this, hA]; simp
  rw [e, links_append, ← hA]
  refine ⟨links_congr _ h1 (fun y hy => ?_) (fun y hy => ?_), upd_same _ _ _, ?_, ?_, ?_, trivial⟩
  · have hyA : y ∈ A := by rwa [hA, List.dropLast_concat] at hy
    have hne : y ≠ pv r := by
      rintro rfl
      rw [hA, List.nodup_append] at hnd
      exact hnd.2.2 _ hyA _ (by simp) rfl
    have hyx : y ≠ x := by
      rintro rfl
      exact hx (by rw [hA]; simp [hyA])
    rw [upd_ne _ _ _ hne, upd_ne _ _ _ hyx]
  · rw [List.tail_cons] at hy
    have hne : y ≠ r := by
      rintro rfl
      exact (List.nodup_cons.1 hnd).1 hy
    have hyx : y ≠ x := by
      rintro rfl
      exact hx (by simp [hy])
    rw [upd_ne _ _ _ hne, upd_ne _ _ _ hyx]
  · rw [upd_ne _ _ _ hxr, upd_same]
  · rw [upd_ne _ _ _ hxp, upd_same]
  · rw [upd_same]

theorem empty (nx pv : Nat → Nat) (r : Nat) (h1 : nx r = r) (h2 : pv r = r) : Cyc nx pv r [] := ⟨h1, h2, trivial⟩
end Go.Proofs.Ytndhmdengadmjaa.Ring
