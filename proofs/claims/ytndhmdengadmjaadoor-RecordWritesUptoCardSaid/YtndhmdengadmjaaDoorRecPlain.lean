/- Numbers by seven bits at a time, batches and records as bytes: plain lists; what is written is read, and what is read was written so. -/
import Derived.Test.YtndhmdengadmjaaDoorCrcPlain
namespace Go.Proofs.YtndhmdengadmjaaDoor.Rec

/-- A number by seven bits at a time. -/
def num (x : Nat) : List UInt8 := if h : x < 128 then [UInt8.ofNat x] else UInt8.ofNat (128 + x % 128) :: num (x / 128)
termination_by x
decreasing_by omega
/-- A number read off the front: r bytes at most; whether a lone 0 may be. -/
def decF : Nat → Bool → List UInt8 → Option (Nat × List UInt8)
  | 0, _, _ => none
  | _ + 1, _, [] => none
  | r + 1, first, b :: l => if b.toNat < 128 then (if b.toNat = 0 ∧ first = false then none else some (b.toNat, l)) else (decF r false l).map fun p => (b.toNat % 128 + 128 * p.1, p.2)
def top : Nat := 4611686018427387904
def dec (l : List UInt8) : Option (Nat × List UInt8) := (decF 9 true l).bind fun p => if p.1 ≤ top then some p else none

theorem num_small {x : Nat} (h : x < 128) : num x = [UInt8.ofNat x] := by rw [num, dif_pos h]
theorem num_big {x : Nat} (h : ¬ x < 128) : num x = UInt8.ofNat (128 + x % 128) :: num (x / 128) := by rw [num, dif_neg h]
theorem ofNat_toNat {x : Nat} (h : x < 256) : (UInt8.ofNat x).toNat = x := by rw [UInt8.toNat_ofNat']; omega
theorem num_len (x : Nat) : 1 ≤ (num x).length := by
  by_cases h : x < 128
  · rw [num_small h]; simp
  · rw [num_big h]; simp
theorem num_len_le : ∀ (r : Nat) (x : Nat), x < 128 ^ r → 0 < r → (num x).length ≤ r
  | 0, _, _, h => absurd h (by omega)
  | r + 1, x, hx, _ => by
    by_cases h : x < 128
    · rw [num_small h]; simp
    · rw [num_big h, List.length_cons]
      have hx' : x / 128 < 128 ^ r := by
        rw [Nat.div_lt_iff_lt_mul (by omega)]
        rw [Nat.pow_succ] at hx
        exact hx
      have hr : 0 < r := by
        rcases Nat.eq_zero_or_pos r with h0 | h0
        · subst h0; simp at hx'; omega
        · exact h0
      have := num_len_le r (x / 128) hx' hr
      omega

theorem div_lt {x r : Nat} (hx : x < 128 ^ (r + 1)) : x / 128 < 128 ^ r := by
  rw [Nat.div_lt_iff_lt_mul (by omega)]
  rw [Nat.pow_succ] at hx
  exact hx
theorem decF_of_num : ∀ (r : Nat) (first : Bool) (x : Nat) (rest : List UInt8), 0 < r → x < 128 ^ r → (x = 0 → first = true) → decF r first (num x ++ rest) = some (x, rest)
  | 0, _, _, _, h, _, _ => absurd h (by omega)
  | r + 1, first, x, rest, _, hx, h0 => by
    by_cases h : x < 128
    · rw [num_small h, List.singleton_append, decF, ofNat_toNat (by omega), if_pos h]
      rw [if_neg]
      rintro ⟨h1, h2⟩
      rw [h0 h1] at h2
      cases h2
    · rw [num_big h, List.cons_append, decF, ofNat_toNat (by omega), if_neg (by omega)]
      have hx' := div_lt hx
      have hr : 0 < r := by
        rcases Nat.eq_zero_or_pos r with h1 | h1
        · subst h1
          simp at hx'
          omega
        · exact h1
      rw [decF_of_num r false (x / 128) rest hr hx' (by omega)]
      simp only [Option.map_some, Option.some.injEq, Prod.mk.injEq, and_true]
      omega
theorem num_of_decF : ∀ (r : Nat) (first : Bool) (x : Nat) (l rest : List UInt8), decF r first l = some (x, rest) → l = num x ++ rest ∧ x < 128 ^ r ∧ (x = 0 → first = true)
  | 0, _, _, _, _, h => by cases h
  | _ + 1, _, _, [], _, h => by cases h
  | r + 1, first, x, b :: l, rest, h => by
    rw [decF] at h
    by_cases hb : b.toNat < 128
    · rw [if_pos hb] at h
      by_cases h0 : b.toNat = 0 ∧ first = false
      · rw [if_pos h0] at h; cases h
      · rw [if_neg h0] at h
        injection h with h
        injection h with h1 h2
        subst h1 h2
        refine ⟨?_, ?_, fun e => ?_⟩
        · rw [num_small hb, List.singleton_append, UInt8.ofNat_toNat]
        · have : 128 ^ 1 ≤ 128 ^ (r + 1) := Nat.pow_le_pow_right (by omega) (by omega)
          omega
        · cases first with
          | true => rfl
          | false => exact absurd ⟨e, rfl⟩ h0
    · rw [if_neg hb] at h
      cases hd : decF r false l with
      | none => rw [hd] at h; cases h
      | some p =>
        rw [hd] at h
        obtain ⟨v, rest'⟩ := p
        simp only [Option.map_some, Option.some.injEq, Prod.mk.injEq] at h
        obtain ⟨h1, h2⟩ := h
        subst h2
        obtain ⟨e1, e2, e3⟩ := num_of_decF r false v l rest' hd
        have hb2 := b.toNat_lt
        have hv : v ≠ 0 := fun e => by have := e3 e; cases this
        refine ⟨?_, ?_, fun e => by omega⟩
        · rw [num_big (by omega), e1, ← h1]
          rw [show (b.toNat % 128 + 128 * v) / 128 = v from by omega, show (b.toNat % 128 + 128 * v) % 128 = b.toNat % 128 from by omega, List.cons_append]
          congr 1
          rw [show 128 + b.toNat % 128 = b.toNat from by omega, UInt8.ofNat_toNat]
        · rw [Nat.pow_succ, ← h1]; omega

theorem top_lt {x : Nat} (h : x ≤ top) : x < 128 ^ 9 := by unfold top at h; omega
theorem dec_num {x : Nat} (h : x ≤ top) (rest : List UInt8) : dec (num x ++ rest) = some (x, rest) := by
  unfold dec
  rw [decF_of_num 9 true x rest (by omega) (top_lt h) (fun _ => rfl)]
  exact if_pos h
theorem num_dec {l rest : List UInt8} {x : Nat} (h : dec l = some (x, rest)) : l = num x ++ rest ∧ x ≤ top := by
  unfold dec at h
  cases hd : decF 9 true l with
  | none => rw [hd] at h; cases h
  | some p =>
    rw [hd] at h
    simp only [Option.bind_some] at h
    by_cases hp : p.1 ≤ top
    · rw [if_pos hp] at h
      injection h with h
      subst h
      exact ⟨(num_of_decF 9 true x l rest hd).1, hp⟩
    · rw [if_neg hp] at h; cases h
theorem dec_iff {l rest : List UInt8} {x : Nat} : dec l = some (x, rest) ↔ l = num x ++ rest ∧ x ≤ top := ⟨num_dec, fun ⟨h, hx⟩ => h ▸ dec_num hx rest⟩

/-- An entry of a batch. -/
abbrev Ent := Nat × Nat × Nat
def okE (e : Ent) : Prop := e.1 ≤ top ∧ e.2.1 ≤ top ∧ e.2.2 ≤ top
def ent (e : Ent) : List UInt8 := num e.1 ++ (num e.2.1 ++ num e.2.2)
def ents : List Ent → List UInt8
  | [] => []
  | e :: l => ent e ++ ents l
theorem ents_append (l m : List Ent) : ents (l ++ m) = ents l ++ ents m := by
  induction l with
  | nil => rfl
  | cons e l ih => simp only [List.cons_append, ents, ih, List.append_assoc]
def decE (l : List UInt8) : Option (Ent × List UInt8) := (dec l).bind fun p => (dec p.2).bind fun q => (dec q.2).map fun s => ((p.1, q.1, s.1), s.2)
theorem decE_iff {l rest : List UInt8} {e : Ent} : decE l = some (e, rest) ↔ l = ent e ++ rest ∧ okE e := by
  unfold decE
  constructor
  · intro h
    cases h1 : dec l with
    | none => rw [h1] at h; cases h
    | some p =>
      rw [h1] at h
      simp only [Option.bind_some] at h
      cases h2 : dec p.2 with
      | none => rw [h2] at h; cases h
      | some q =>
        rw [h2] at h
        simp only [Option.bind_some] at h
        cases h3 : dec q.2 with
        | none => rw [h3] at h; cases h
        | some s =>
          rw [h3] at h
          simp only [Option.map_some, Option.some.injEq, Prod.mk.injEq] at h
          obtain ⟨rfl, rfl⟩ := h
          have a1 := num_dec (x := p.1) (rest := p.2) h1
          have a2 := num_dec (x := q.1) (rest := q.2) h2
          have a3 := num_dec (x := s.1) (rest := s.2) h3
          refine ⟨?_, a1.2, a2.2, a3.2⟩
          rw [a1.1, a2.1, a3.1]
          simp only [ent, List.append_assoc]
  · rintro ⟨rfl, h1, h2, h3⟩
    simp only [ent, List.append_assoc]
    rw [dec_num h1, Option.bind_some, dec_num h2, Option.bind_some, dec_num h3]
    rfl
def decEs : Nat → List UInt8 → Option (List Ent × List UInt8)
  | 0, l => some ([], l)
  | n + 1, l => (decE l).bind fun p => (decEs n p.2).map fun q => (p.1 :: q.1, q.2)
theorem decEs_iff : ∀ {n : Nat} {l rest : List UInt8} {es : List Ent}, decEs n l = some (es, rest) ↔ l = ents es ++ rest ∧ es.length = n ∧ ∀ e ∈ es, okE e
  | 0, l, rest, es => by
    constructor
    · intro h
      injection h with h
      injection h with h1 h2
      subst h1 h2
      exact ⟨rfl, rfl, fun e he => by cases he⟩
    · rintro ⟨rfl, h, -⟩
      obtain rfl := List.eq_nil_of_length_eq_zero h
      rfl
  | n + 1, l, rest, es => by
    rw [decEs]
    constructor
    · intro h
      cases h1 : decE l with
      | none => rw [h1] at h; cases h
      | some p =>
        rw [h1] at h
        simp only [Option.bind_some] at h
        cases h2 : decEs n p.2 with
        | none => rw [h2] at h; cases h
        | some q =>
          rw [h2] at h
          simp only [Option.map_some, Option.some.injEq, Prod.mk.injEq] at h
          obtain ⟨rfl, rfl⟩ := h
          have a1 : l = ent p.1 ++ p.2 ∧ okE p.1 := decE_iff.1 h1
          have a2 : p.2 = ents q.1 ++ q.2 ∧ q.1.length = n ∧ ∀ e ∈ q.1, okE e := decEs_iff.1 h2
          refine ⟨?_, by simp [a2.2.1], fun e he => ?_⟩
          · rw [a1.1, a2.1, ents, List.append_assoc]
          · rcases List.mem_cons.1 he with rfl | he
            · exact a1.2
            · exact a2.2.2 e he
    · rintro ⟨rfl, h, hok⟩
      cases es with
      | nil => cases h
      | cons e es =>
        rw [ents, List.append_assoc, decE_iff.2 ⟨rfl, hok e (List.mem_cons_self ..)⟩, Option.bind_some, decEs_iff.2 ⟨rfl, by simpa using h, fun e he => hok e (List.mem_cons_of_mem _ he)⟩]
        rfl

/-- Four bytes, the lowest first. -/
def le4 (x : Nat) : List UInt8 := [UInt8.ofNat x, UInt8.ofNat (x / 256), UInt8.ofNat (x / 65536), UInt8.ofNat (x / 16777216)]
def body (es : List Ent) : List UInt8 := num es.length ++ ents es
def sum (l : List UInt8) : List UInt8 := le4 (Crc.crc l).toNat
/-- A batch as bytes. -/
def bat (es : List Ent) : List UInt8 := body es ++ sum (body es)
def okB (es : List Ent) : Prop := es.length ≤ 64 ∧ ∀ e ∈ es, okE e
/-- A batch read off the front. -/
def decB (l : List UInt8) : Option (List Ent × List UInt8) :=
  (dec l).bind fun p => if p.1 ≤ 64 then (decEs p.1 p.2).bind fun q => if q.2.take 4 = sum (l.take (l.length - q.2.length)) ∧ 4 ≤ q.2.length then some (q.1, q.2.drop 4) else none else none
theorem sum_len (l : List UInt8) : (sum l).length = 4 := rfl
theorem decB_iff {l rest : List UInt8} {es : List Ent} : decB l = some (es, rest) ↔ l = bat es ++ rest ∧ okB es := by
  unfold decB
  constructor
  · intro h
    cases h1 : dec l with
    | none => rw [h1] at h; cases h
    | some p =>
      obtain ⟨n, l1⟩ := p
      rw [h1] at h
      simp only [Option.bind_some] at h
      by_cases hn : n ≤ 64
      · rw [if_pos hn] at h
        cases h2 : decEs n l1 with
        | none => rw [h2] at h; cases h
        | some q =>
          obtain ⟨es', l2⟩ := q
          rw [h2] at h
          simp only [Option.bind_some] at h
          by_cases h3 : l2.take 4 = sum (l.take (l.length - l2.length)) ∧ 4 ≤ l2.length
          · rw [if_pos h3] at h
            injection h with h
            injection h with e1 e2
            subst e1 e2
            obtain ⟨rfl, hx⟩ := num_dec h1
            obtain ⟨rfl, hlen, hok⟩ := decEs_iff.1 h2
            refine ⟨?_, by omega, hok⟩
            have hl : num n ++ (ents es' ++ l2) = body es' ++ l2 := by rw [body, hlen, List.append_assoc]
            rw [hl] at h3 ⊢
            have ht : (body es' ++ l2).take ((body es' ++ l2).length - l2.length) = body es' := by
              rw [List.length_append, Nat.add_sub_cancel, List.take_left]
            rw [ht] at h3
            rw [bat, ← h3.1, List.append_assoc, List.take_append_drop]
          · rw [if_neg h3] at h; cases h
      · rw [if_neg hn] at h; cases h
  · rintro ⟨rfl, hlen, hok⟩
    have e1 : bat es ++ rest = num es.length ++ (ents es ++ (sum (body es) ++ rest)) := by simp only [bat, body, List.append_assoc]
    have hd : dec (bat es ++ rest) = some (es.length, ents es ++ (sum (body es) ++ rest)) := by
      rw [e1, dec_num (by unfold top; omega)]
    rw [hd, Option.bind_some, if_pos hlen, decEs_iff.2 ⟨rfl, rfl, hok⟩, Option.bind_some]
    have ht : (bat es ++ rest).take ((bat es ++ rest).length - (sum (body es) ++ rest).length) = body es := by
      have e2 : bat es ++ rest = body es ++ (sum (body es) ++ rest) := by rw [bat, List.append_assoc]
      rw [e2, List.length_append (as := body es), Nat.add_sub_cancel, List.take_left]
    have hs4 : (sum (body es) ++ rest).take 4 = sum (body es) := by rw [List.take_append_of_le_length (by rw [sum_len]; omega)]; rfl
    have hs5 : (sum (body es) ++ rest).drop 4 = rest := by rw [List.drop_append_of_le_length (by rw [sum_len]; omega)]; rfl
    rw [ht, if_pos ⟨hs4, by rw [List.length_append, sum_len]; omega⟩, hs5]
theorem bat_len (es : List Ent) : 5 ≤ (bat es).length := by
  rw [bat, List.length_append, sum_len, body, List.length_append]
  have := num_len es.length
  omega

/-- All batches read off the front; what is left. -/
def readF : Nat → List UInt8 → List (List Ent) × List UInt8
  | 0, l => ([], l)
  | f + 1, l => match decB l with
    | none => ([], l)
    | some p => let q := readF f p.2; (p.1 :: q.1, q.2)
def flat : List (List Ent) → List UInt8
  | [] => []
  | es :: ls => bat es ++ flat ls
theorem flat_append (a b : List (List Ent)) : flat (a ++ b) = flat a ++ flat b := by
  induction a with
  | nil => rfl
  | cons e a ih => simp only [List.cons_append, flat, ih, List.append_assoc]
def read (l : List UInt8) : List (List Ent) × List UInt8 := readF l.length l
/-- What reading is: batches as far as they go. -/
theorem readF_eq : ∀ (ls : List (List Ent)) (f : Nat) (rest : List UInt8), (∀ es ∈ ls, okB es) → decB rest = none → (flat ls ++ rest).length ≤ f → readF f (flat ls ++ rest) = (ls, rest)
  | [], f, rest, _, h, _ => by
    cases f with
    | zero => rfl
    | succ f => show readF (f + 1) rest = _; rw [readF, h]
  | es :: ls, f, rest, hok, h, hf => by
    have hb := bat_len es
    cases f with
    | zero =>
      rw [flat, List.append_assoc, List.length_append] at hf
      omega
    | succ f =>
      have e1 : flat (es :: ls) ++ rest = bat es ++ (flat ls ++ rest) := by rw [flat, List.append_assoc]
      rw [e1] at hf ⊢
      rw [readF, decB_iff.2 ⟨rfl, hok es (List.mem_cons_self ..)⟩]
      simp only
      rw [List.length_append] at hf
      rw [readF_eq ls f rest (fun e he => hok e (List.mem_cons_of_mem _ he)) h (by omega)]
theorem read_eq {ls : List (List Ent)} {rest : List UInt8} (hok : ∀ es ∈ ls, okB es) (h : decB rest = none) : read (flat ls ++ rest) = (ls, rest) := readF_eq ls _ rest hok h (Nat.le_refl _)
theorem decB_nil : decB [] = none := rfl
/-- No batch is the beginning of another. -/
theorem decB_part {p q : List UInt8} {es : List Ent} (h : p ++ q = bat es) (hok : okB es) (hq : q ≠ []) : decB p = none := by
  cases hd : decB p with
  | none => rfl
  | some r =>
    obtain ⟨es', rest⟩ := r
    obtain ⟨rfl, hok'⟩ := decB_iff.1 hd
    have h1 : decB (bat es) = some (es', rest ++ q) := by rw [← h, List.append_assoc]; exact decB_iff.2 ⟨rfl, hok'⟩
    have h2 : decB (bat es) = some (es, []) := decB_iff.2 ⟨by rw [List.append_nil], hok⟩
    rw [h1] at h2
    injection h2 with h2
    injection h2 with _ h2
    exact absurd (List.append_eq_nil_iff.1 h2).2 hq
/-- Of a beginning of a record just what was whole is read. -/
theorem read_part : ∀ (ls : List (List Ent)) (k : Nat), (∀ es ∈ ls, okB es) → k ≤ (flat ls).length → ∃ j rest, j ≤ ls.length ∧ (flat ls).take k = flat (ls.take j) ++ rest ∧ decB rest = none ∧ (j = ls.length → rest = []) ∧ (j < ls.length → k < (flat (ls.take (j + 1))).length)
  | [], k, _, hk => ⟨0, [], Nat.le_refl _, by simp [flat], decB_nil, fun _ => rfl, fun h => absurd h (Nat.lt_irrefl 0)⟩
  | es :: ls, k, hok, hk => by
    by_cases h : k < (bat es).length
    · refine ⟨0, (flat (es :: ls)).take k, Nat.zero_le _, by simp [flat], ?_, fun e => by simp at e, fun _ => by simpa [flat] using h⟩
      have e1 : (flat (es :: ls)).take k = (bat es).take k := by rw [flat, List.take_append_of_le_length (by omega)]
      rw [e1]
      exact decB_part (q := (bat es).drop k) (List.take_append_drop k _) (hok es (List.mem_cons_self ..)) (fun e => by
        have := congrArg List.length e
        rw [List.length_drop] at this
        simp at this
        omega)
    · obtain ⟨j, rest, h1, h2, h3, h4, h5⟩ := read_part ls (k - (bat es).length) (fun e he => hok e (List.mem_cons_of_mem _ he)) (by rw [flat, List.length_append] at hk; omega)
      refine ⟨j + 1, rest, by simpa using h1, ?_, h3, fun e => h4 (by simpa using e), fun e => ?_⟩
      · rw [flat, List.take_append, List.take_of_length_le (by omega), h2, List.take_succ_cons, flat, List.append_assoc]
      · have := h5 (by simpa using e)
        rw [List.take_succ_cons, flat, List.length_append]
        omega
end Go.Proofs.YtndhmdengadmjaaDoor.Rec
