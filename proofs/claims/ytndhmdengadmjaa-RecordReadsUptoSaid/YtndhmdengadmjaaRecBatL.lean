/- The states of record.reader's batch. -/
import Derived.Test.YtndhmdengadmjaaRecBatch
import Derived.Test.YtndhmdengadmjaaItems
import Derived.Deep.RegionHeld3
set_option linter.unusedVariables false
namespace Go.Proofs.Ytndhmdengadmjaa.RecW
open Go.RowKit Rec BufW I64

/-- The cells of entries. -/
def entv : List Ent → List Value
  | [] => []
  | e :: l => .int .i64 (e.1 : Int) :: .int .i64 (e.2.1 : Int) :: .int .i64 (e.2.2 : Int) :: entv l
theorem entv_append (l m : List Ent) : entv (l ++ m) = entv l ++ entv m := by
  induction l with
  | nil => rfl
  | cons r l ih => simp only [List.cons_append, entv, ih]
theorem entv_len (l : List Ent) : (entv l).length = l.length * 3 := by
  induction l with
  | nil => rfl
  | cons r l ih => simp only [entv, List.length_cons, ih]; omega
/-- The slice v of entries, the call's own from base on. -/
def EntsAt (w : World) (base : Nat) (v : Value) (es : List Ent) : Prop := w.ownsRow base 76 3 v es.length (entv es)

/-- The state of a batch: its four variables, the reader at a'. -/
structure BS (w W : World) (B rb : Nat) (A : Option Addr) (c : Nat) (l : List UInt8) (a g1 g2 g3 g4 : Nat) (a' : Nat) (v : Value) : Prop where
  rdr : Rdr W B rb A c l a'
  b1 : Bk W g1 67 #[ptr rb]
  b2 : Bk W g2 70 #[v]
  b3 : Bk W g3 4 #[.bool false]
  b4 : Bk W g4 3 #[.int .i64 a]
  fr : Fr B rdrT w W
  l2 : w.heap.size ≤ g2
  l3 : w.heap.size ≤ g3
  hB : B ≤ w.heap.size
section
variable {w W W' : World} {B rb c a a' a'' g1 g2 g3 g4 : Nat} {A : Option Addr} {l : List UInt8} {v : Value}
theorem BS.step (h : BS w W B rb A c l a g1 g2 g3 g4 a' v) (hf : Fr B rdrT W W') (hr : Rdr W' B rb A c l a'') : BS w W' B rb A c l a g1 g2 g3 g4 a'' v :=
  ⟨hr, hf.bk h.b1 (by simp only [rdrT]; decide), hf.bk h.b2 (by simp only [rdrT]; decide), hf.bk h.b3 (by simp only [rdrT]; decide), hf.bk h.b4 (by simp only [rdrT]; decide), h.fr.trans hf, h.l2, h.l3, h.hB⟩
end

def start (w : World) (rb a : Nat) : World := (((w.alloc (.cells #[.pointer (some ⟨rb, 0, none⟩)] 67)).alloc (.cells #[.slice none 0 0] 70)).alloc (.cells #[.bool false] 4)).alloc (.cells #[.int .i64 a] 3)
theorem start_bs (w : World) (B rb c a : Nat) (A : Option Addr) (l : List UInt8) (h : Rdr w B rb A c l a) : BS w (start w rb a) B rb A c l a w.heap.size (w.heap.size + 1) (w.heap.size + 1 + 1) (w.heap.size + 1 + 1 + 1) a (.slice none 0 0) := by
  have hB : B ≤ w.heap.size := Nat.le_trans h.low (Nat.le_of_lt h.bk.lt)
  have f1 : Fr B never w (w.alloc (.cells #[.pointer (some ⟨rb, 0, none⟩)] 67)) := (Fr.refl _ _ _).alloc hB _
  have k1 := Bk.new w 67 #[.pointer (some ⟨rb, 0, none⟩)]
  have f2 := f1.alloc (Nat.le_trans hB f1.size) (.cells #[.slice none 0 0] 70)
  have k2 := Bk.new (w.alloc (.cells #[.pointer (some ⟨rb, 0, none⟩)] 67)) 70 #[.slice none 0 0]
  have f3 := f2.alloc (Nat.le_trans hB f2.size) (.cells #[.bool false] 4)
  have k3 := Bk.new ((w.alloc (.cells #[.pointer (some ⟨rb, 0, none⟩)] 67)).alloc (.cells #[.slice none 0 0] 70)) 4 #[.bool false]
  have f4 := f3.alloc (Nat.le_trans hB f3.size) (.cells #[.int .i64 a] 3)
  have k4 := Bk.new (((w.alloc (.cells #[.pointer (some ⟨rb, 0, none⟩)] 67)).alloc (.cells #[.slice none 0 0] 70)).alloc (.cells #[.bool false] 4)) 3 #[.int .i64 a]
  simp at k2 k3 k4
  exact ⟨h.fr f4 (fun _ _ h => h) (fun _ _ h => h), ((k1.alloc _).alloc _).alloc _, (k2.alloc _).alloc _, k3.alloc _, k4, f4.mono fun _ h => h.elim, by omega, by omega, hB⟩

/-- The blocks of one type. -/
def rowK (e : TypeId) : Obj → Prop
  | .cells _ t _ => t = e
  | _ => False
theorem _root_.Go.Proofs.Ytndhmdengadmjaa.Fr.setNew {B : Nat} {T : Obj → Prop} {w W : World} (h : Fr B T w W) (hB : B ≤ w.heap.size) {p : Addr} (hp : w.heap.size ≤ p.block) (u : Value) : Fr B T w (W.setCell p u) :=
  ⟨h.low.setCell (Nat.le_trans hB hp) u, fun x o hx hn => by
    have hlt := (Array.getElem?_eq_some_iff.1 hx).1
    rw [Below.heap_setCell W p u x (by omega)]
    exact h.keep x o hx hn⟩
/-- The call that a batch defers. -/
def dfr (g1 g2 g3 g4 : Nat) : Deferred := { target := Target.fn (Fn.func 32) #[.pointer (some ⟨g4, 0, none⟩), .pointer (some ⟨g2, 0, none⟩), .pointer (some ⟨g3, 0, none⟩), .pointer (some ⟨g1, 0, none⟩)], args := #[] }

/-- What a batch is read as. -/
def BatPost (w : World) (B rb : Nat) (A : Option Addr) (c : Nat) (l : List UInt8) (a : Nat) (e : Ending) (w' : World) : Prop :=
  Fr B rdrT w w' ∧ (∀ es rest, decB (l.drop a) = some (es, rest) → ∃ v, e = .returned (.tuple #[v, .bool true]) ∧ EntsAt w' w.heap.size v es ∧ Rdr w' B rb A c l (l.length - rest.length)) ∧
    (decB (l.drop a) = none → e = .returned (.tuple #[.slice none 0 0, .bool false]) ∧ Rdr w' B rb A c l a)
theorem BatPost.bad {w w' : World} {B rb c a : Nat} {A : Option Addr} {l : List UInt8} (hn : decB (l.drop a) = none) (hf : Fr B rdrT w w') (hr : Rdr w' B rb A c l a) : BatPost w B rb A c l a (.returned (.tuple #[.slice none 0 0, .bool false])) w' :=
  ⟨hf, fun x rest hx => (by rw [hn] at hx; cases hx), fun _ => ⟨rfl, hr⟩⟩

/-- Where a batch panics. -/
theorem bat_panic {w W : World} {B rb c a a' g1 g2 g3 g4 : Nat} {A : Option Addr} {l : List UInt8} {v : Value} (hs : BS w W B rb A c l a g1 g2 g3 g4 a' v) (hn : decB (l.drop a) = none) (tmps : Array Value) (h2 : tmps[2]? = some (.pointer (some ⟨g2, 0, none⟩))) (h3 : tmps[3]? = some (.pointer (some ⟨g3, 0, none⟩))) :
    bodyPostD Try.prog Try.f25 (BatPost w B rb A c l a) (Exit.panic shortP) { tmps := tmps, defers := [dfr g1 g2 g3 g4] } W := by
  unfold dfr shortP
  refine leaves_cons (f := 32) (args := #[.pointer (some ⟨g4, 0, none⟩), .pointer (some ⟨g2, 0, none⟩), .pointer (some ⟨g3, 0, none⟩), .pointer (some ⟨g1, 0, none⟩)]) (by simp) (by simp [go_sem]) ?_
  refine (catch_short g4 g2 g3 g1 rb a a' v (.bool false) [] W #[] _ hs.b4 hs.b2 hs.b3 hs.b1 hs.rdr.bk).mono ?_
  rintro e u' w'' ⟨rfl, rfl, rfl⟩
  have hB : B ≤ w.heap.size := hs.hB
  have f1 : Fr B never W (W.alloc (.cells #[] 86)) := (Fr.refl _ _ _).alloc (Nat.le_trans hB hs.fr.size) _
  have k2 := (hs.b2.alloc (.cells #[] 86)).put 0 (.slice none 0 0)
  have k3 := (hs.b3.alloc (.cells #[] 86))
  have n23 : g3 ≠ g2 := bk_ne hs.b3 hs.b2 (by decide)
  have n2 : g2 ≠ rb := bk_ne hs.b2 hs.rdr.bk (by decide)
  have n3 : g3 ≠ rb := bk_ne hs.b3 hs.rdr.bk (by decide)
  have k3' := (k3.far (p := ⟨g2, 0, none⟩) n23 (.slice none 0 0)).put 0 (.bool false)
  have k2' := (k2.far (p := ⟨g3, 0, none⟩) (Ne.symm n23) (.bool false)).far (p := ⟨rb, 1, none⟩) n2 (.int .i64 a)
  have k3'' := k3'.far (p := ⟨rb, 1, none⟩) n3 (.int .i64 a)
  have R1 := hs.rdr.fr f1 (fun _ _ h => h) (fun _ _ h => h)
  have F1 := ((hs.fr.trans (f1.mono fun _ h => h.elim)).setNew hB (p := ⟨g2, 0, none⟩) hs.l2 (.slice none 0 0)).setNew hB (p := ⟨g3, 0, none⟩) hs.l3 (.bool false)
  have e1 := Fr.set (T := rowK 70) (p := ⟨g2, 0, none⟩) (hs.b2.alloc (.cells #[] 86)) (Nat.le_trans hB hs.l2) rfl (.slice none 0 0)
  have e2 := Fr.set (T := rowK 4) (p := ⟨g3, 0, none⟩) (k3.far (p := ⟨g2, 0, none⟩) n23 (.slice none 0 0)) (Nat.le_trans hB hs.l3) rfl (.bool false)
  have R2 := (R1.fr e1 (fun _ _ => by simp only [rowK]; decide) (fun _ _ => by simp only [rowK]; decide)).fr e2 (fun _ _ => by simp only [rowK]; decide) (fun _ _ => by simp only [rowK]; decide)
  obtain ⟨R3, F3⟩ := R2.at_ (a' := a)
  have q2 := k2'.at_ (i := 0) (u := .slice none 0 0) rfl
  have q3 := k3''.at_ (i := 0) (u := .bool false) rfl
  have HP := BatPost.bad hn (F1.trans F3) R3
  clear k2 k3 k3' k2' k3'' R1 F1 e1 e2 R2 R3 F3 f1
  generalize (((W.alloc (.cells #[] 86)).setCell ⟨g2, 0, none⟩ (.slice none 0 0)).setCell ⟨g3, 0, none⟩ (.bool false)).setCell ⟨rb, 1, none⟩ (.int .i64 a) = W2 at *
  simp [Leaves, settle, results, Try.results25, go_sem, h2, h3, q2, q3]
  exact HP

/-- Where a batch returns. -/
theorem bat_done {W : World} {g1 g2 g3 g4 : Nat} {v : Value} (P : Ending → World → Prop) (tmps : Array Value) (h2 : tmps[2]? = some (.pointer (some ⟨g2, 0, none⟩))) (h3 : tmps[3]? = some (.pointer (some ⟨g3, 0, none⟩)))
    (q2 : W.cell? ⟨g2, 0, none⟩ = some v) (q3 : W.cell? ⟨g3, 0, none⟩ = some (.bool true)) (hP : P (.returned (.tuple #[v, .bool true])) W) :
    bodyPostD Try.prog Try.f25 P Exit.normal { tmps := tmps, defers := [dfr g1 g2 g3 g4] } W := by
  unfold dfr
  refine leaves_cons (f := 32) (args := #[.pointer (some ⟨g4, 0, none⟩), .pointer (some ⟨g2, 0, none⟩), .pointer (some ⟨g3, 0, none⟩), .pointer (some ⟨g1, 0, none⟩)]) (by simp) (by simp [go_sem]) ?_
  refine (catch_idle g4 g2 g3 g1 W).mono ?_
  rintro e u' w'' ⟨rfl, rfl, rfl⟩
  simp [Leaves, settle, results, Try.results25, go_sem, h2, h3, q2, q3]
  exact hP

/-- Behind some entries the rest is read as it would be alone. -/
theorem decEs_pre : ∀ (es : List Ent) (m : Nat) (r : List UInt8), (∀ e ∈ es, okE e) → decEs (es.length + m) (ents es ++ r) = (decEs m r).map fun q => (es ++ q.1, q.2)
  | [], m, r, _ => by
    simp only [List.length_nil, Nat.zero_add, ents, List.nil_append]
    cases decEs m r <;> rfl
  | e :: es, m, r, h => by
    rw [List.length_cons, Nat.add_right_comm, decEs, ents, List.append_assoc, decE_iff.2 ⟨rfl, h e (List.mem_cons_self ..)⟩, Option.bind_some]
    simp only
    rw [decEs_pre es m r (fun e he => h e (List.mem_cons_of_mem _ he))]
    cases decEs m r <;> rfl
theorem decEs_stop {es : List Ent} {n : Nat} {r : List UInt8} (h : ∀ e ∈ es, okE e) (hn : es.length < n) (hr : decE r = none) : decEs n (ents es ++ r) = none := by
  obtain ⟨m, rfl⟩ : ∃ m, n = es.length + (m + 1) := ⟨n - es.length - 1, by omega⟩
  rw [decEs_pre es (m + 1) r h, decEs, hr]
  rfl
theorem decB_none1 {l : List UInt8} (h : dec l = none) : decB l = none := by unfold decB; rw [h]; rfl
theorem decB_none2 {l r : List UInt8} {n : Nat} (h : dec l = some (n, r)) (hn : ¬ n ≤ 64) : decB l = none := by unfold decB; rw [h, Option.bind_some, if_neg hn]
theorem decB_none3 {l r : List UInt8} {n : Nat} (h : dec l = some (n, r)) (hd : decEs n r = none) : decB l = none := by
  unfold decB
  rw [h, Option.bind_some]
  by_cases hn : n ≤ 64
  · rw [if_pos hn, hd]; rfl
  · rw [if_neg hn]
theorem decB_none4 {l r r2 : List UInt8} {n : Nat} {es : List Ent} (h : dec l = some (n, r)) (hd : decEs n r = some (es, r2)) (hs : ¬ (r2.take 4 = sum (l.take (l.length - r2.length)) ∧ 4 ≤ r2.length)) : decB l = none := by
  unfold decB
  rw [h, Option.bind_some]
  by_cases hn : n ≤ 64
  · rw [if_pos hn, hd, Option.bind_some, if_neg hs]
  · rw [if_neg hn]

theorem dec_cut {l r : List UInt8} {x a : Nat} (h : dec (l.drop a) = some (x, r)) : r = l.drop (l.length - r.length) ∧ l.length - r.length ≤ l.length := by
  refine ⟨?_, by omega⟩
  have h1 := (num_dec h).1
  have h3 : (l.drop a).drop (num x).length = r := by rw [h1, List.drop_left]
  have h2 := congrArg List.length h1
  rw [List.length_drop, List.length_append] at h2
  rw [List.drop_drop] at h3
  by_cases hr : r = []
  · subst hr
    simp
  · have : 0 < r.length := List.length_pos_iff.2 hr
    conv => lhs; rw [← h3]
    congr 1
    omega
theorem rd_cut {w : World} {A : Option Addr} {l : List UInt8} {a a1 b off : Nat} (h : Rd w A (u8v l)) (hA : A = some ⟨b, off, none⟩) (h1 : a + 1 ≤ a1) (h2 : a1 ≤ l.length) : Rd w (some ⟨b, off + a, none⟩) (u8v ((l.drop a).take (a1 - a))) := by
  have h3 := (h.drop a (a + l.length) (by rw [u8v_length]; omega)).take (a1 - a)
  rw [if_neg (by omega), hA] at h3
  have e : u8v ((l.drop a).take (a1 - a)) = ((u8v l).drop a).take (a1 - a) := by simp [u8v, List.map_take, List.map_drop]
  rw [e]
  simpa [Addr.add_lit] using h3
theorem rd_cut_len {l : List UInt8} {a a1 : Nat} (h1 : a + 1 ≤ a1) (h2 : a1 ≤ l.length) : ((l.drop a).take (a1 - a)).length = a1 - a := by
  rw [List.length_take, List.length_drop]; omega
theorem shr8 (S i : Nat) (hi : i < 4) : Op.shift .shr .u32 (S : Int) .i64 (IntKind.i64.wrap (8 * (i : Int))) = pure (.int .u32 ((S / 2 ^ (8 * i) : Nat) : Int)) := by
  have h1 : IntKind.i64.wrap (8 * (i : Int)) = ((8 * i : Nat) : Int) := by rw [IntKind.wrap_i64]; omega
  rw [h1, shift_shr_any _ _ _ _ (by omega)]
  have h2 : min ((8 * i : Nat) : Int).toNat IntKind.u32.bits = 8 * i := by
    have : IntKind.u32.bits = 32 := rfl
    rw [this]; omega
  rw [h2]
  congr 2
theorem le4_at (S i : Nat) (hi : i < 4) : (le4 S)[i]? = some (UInt8.ofNat (S / 2 ^ (8 * i) % 256)) := by
  have e : ∀ x : Nat, UInt8.ofNat (x % 256) = UInt8.ofNat x := fun x => by
    apply UInt8.toNat_inj.1
    rw [UInt8.toNat_ofNat', UInt8.toNat_ofNat']
    simp
  rw [e]
  rcases i with _ | _ | _ | _ | i
  · simp [le4]
  · simp [le4]
  · simp [le4]
  · simp [le4]
  · omega
theorem sum_eq {l l1 : List UInt8} {a a1 n S : Nat} {es : List Ent} (hd : dec (l.drop a) = some (n, l1)) (hde : decEs n l1 = some (es, l.drop a1)) (hS : S = (Crc.crc ((l.drop a).take (a1 - a))).toNat) (hp : a + 1 ≤ a1 ∧ a1 ≤ l.length) :
    sum ((l.drop a).take ((l.drop a).length - (l.drop a1).length)) = le4 S := by
  rw [List.length_drop, List.length_drop, show l.length - a - (l.length - a1) = a1 - a from by omega, hS]
  rfl
theorem EntsAt.form {W : World} {base : Nat} {v : Value} {es : List Ent} (h : EntsAt W base v es) : ∃ A c, v = .slice A es.length c := by
  rcases h.2 with ⟨rfl, h0⟩ | ⟨g, cap, cur, rfl, -⟩
  · exact ⟨none, 0, by rw [h0]⟩
  · exact ⟨_, cap, rfl⟩
theorem BatPost.good {w w' : World} {B rb c a : Nat} {A : Option Addr} {l rest : List UInt8} {es : List Ent} {v : Value} (hn : decB (l.drop a) = some (es, rest)) (hf : Fr B rdrT w w') (hv : EntsAt w' w.heap.size v es) (hr : Rdr w' B rb A c l (l.length - rest.length)) : BatPost w B rb A c l a (.returned (.tuple #[v, .bool true])) w' :=
  ⟨hf, fun es' rest' hx => (by rw [hn] at hx; injection hx with hx; injection hx with h1 h2; subst h1 h2; exact ⟨v, rfl, hv, hr⟩), fun h => (by rw [hn] at h; cases h)⟩
/-- A slice '[]Entry{}'. -/
theorem EntsAt.empty (W : World) {base : Nat} (hb : base ≤ W.heap.size) : EntsAt (W.alloc (.cells #[] 76)) base (.slice (some ⟨W.heap.size, 0, none⟩) 0 0) [] :=
  ⟨rfl, .inr ⟨W.heap.size, 0, #[], rfl, hb, heap_alloc_new W _, Nat.le_refl _, Nat.zero_le _, rfl, rfl⟩⟩

section
variable {w W W' : World} {B rb c a a' a'' g1 g2 g3 g4 : Nat} {A : Option Addr} {l : List UInt8} {v : Value}
theorem BS.hW (h : BS w W B rb A c l a g1 g2 g3 g4 a' v) : B ≤ W.heap.size := Nat.le_trans h.hB h.fr.size
theorem BS.alloc (h : BS w W B rb A c l a g1 g2 g3 g4 a' v) (o : Obj) : BS w (W.alloc o) B rb A c l a g1 g2 g3 g4 a' v :=
  have f : Fr B never W (W.alloc o) := (Fr.refl _ _ _).alloc h.hW o
  ⟨h.rdr.fr f (fun _ _ h => h) (fun _ _ h => h), h.b1.alloc o, h.b2.alloc o, h.b3.alloc o, h.b4.alloc o, h.fr.trans (f.mono fun _ h => h.elim), h.l2, h.l3, h.hB⟩
theorem BS.out (h : BS w W B rb A c l a g1 g2 g3 g4 a' v) (u : Value) : BS w (W.setCell ⟨g2, 0, none⟩ u) B rb A c l a g1 g2 g3 g4 a' u :=
  have f := Fr.set (T := rowK 70) (p := ⟨g2, 0, none⟩) h.b2 (Nat.le_trans h.hB h.l2) rfl u
  ⟨h.rdr.fr f (fun _ _ => by simp only [rowK]; decide) (fun _ _ => by simp only [rowK]; decide), f.bk h.b1 (by simp only [rowK]; decide), h.b2.put 0 u, f.bk h.b3 (by simp only [rowK]; decide), f.bk h.b4 (by simp only [rowK]; decide), h.fr.setNew h.hB h.l2 u, h.l2, h.l3, h.hB⟩
/-- What leaves the entries' rows. -/
theorem BS.rows {T : Obj → Prop} (h : BS w W B rb A c l a g1 g2 g3 g4 a' v) (hf : Fr w.heap.size T W W') (hT : ∀ cs t r, T (.cells cs t r) → t = 76) : BS w W' B rb A c l a g1 g2 g3 g4 a' v :=
  have f := hf.base h.hB
  ⟨h.rdr.fr f (fun _ _ ht => absurd (hT _ _ _ ht) (by decide)) (fun _ _ ht => absurd (hT _ _ _ ht) (by decide)), f.bk h.b1 (fun ht => absurd (hT _ _ _ ht) (by decide)), f.bk h.b2 (fun ht => absurd (hT _ _ _ ht) (by decide)), f.bk h.b3 (fun ht => absurd (hT _ _ _ ht) (by decide)), f.bk h.b4 (fun ht => absurd (hT _ _ _ ht) (by decide)),
    ⟨h.fr.low.trans f.low, fun x o hx hn => by
      rw [hf.low.block x (Array.getElem?_eq_some_iff.1 hx).1]; exact h.fr.keep x o hx hn⟩, h.l2, h.l3, h.hB⟩
theorem EntsAt.out {base : Nat} {es : List Ent} (h : EntsAt W base v es) {t : TypeId} {cs : Array Value} {g : Nat} (hg : Bk W g t cs) (ht : 76 ≠ t) (u : Value) (i : Nat) : EntsAt (W.setCell ⟨g, i, none⟩ u) base v es :=
  ownsRow_setCell_other h (Ne.symm (own_bk_ne h hg ht)) u
end

theorem ent_info : (Try.prog.info? 76).map (fun i => (i.zero, i.size, i.bytes)) = some (some (.agg #[.int .i64 0, .int .i64 0, .int .i64 0]), 3, 24) := by kernel_rfl
theorem entv_one (e : Ent) : ∀ u ∈ entv [e], u.oneCell' = true := by
  intro u hu
  simp only [entv, List.mem_cons, List.not_mem_nil, or_false] at hu
  rcases hu with rfl | rfl | rfl <;> rfl
/-- 'append(l, x)' of one entry. -/
theorem wpList_ent {w : World} {ops : Array Oper} {rest : List Oper} {o : Oper} {a : Act} {Q : Exit → Act → World → Prop} {base : Nat} {v : Value} {es : List Ent} (hgd : o.guard = none) (s x : Operand)
    (ho : o.op = .call { callee := .builtin .append, args := #[s, x], argTypes := #[70, 70] })
    (hs : a.eval s = v) (h : EntsAt w base v es) (y : Ent) (gb cx : Nat) (hx : a.eval x = .slice (some ⟨gb, 0, none⟩) 1 cx)
    (hc : Bk w gb 76 #[.int .i64 (y.1 : Int), .int .i64 (y.2.1 : Int), .int .i64 (y.2.2 : Int)]) (hl : es.length ≤ 1000000000) (hbase : base ≤ w.heap.size)
    (hK : ∀ (g cap : Nat) (w' : World), EntsAt w' base (.slice (some ⟨g, 0, none⟩) (es.length + 1) cap) (es ++ [y]) → Fr base (rowK 76) w w' → wpList Try.prog ops Q rest (a.put o.dst (.slice (some ⟨g, 0, none⟩) (es.length + 1) cap)) w') : wpList Try.prog ops Q (o :: rest) a w := by
  obtain ⟨i, hi, hz, hsz, hby⟩ := info_parts ent_info
  refine wpList_append_lies w hgd s x 70 ho base 76 i _ 3 24 Try.underlying70 hi hz hsz hby rfl (by omega) v es.length (entv es) hs h ⟨gb, 0, none⟩ 1 cx (entv [y]) hx rfl ?_ (entv_one y) (by omega) (by simp only [maxLen]; omega) (by omega) hbase _ rfl ?_
  · intro j u hu
    rw [Addr.add_lit, Nat.zero_add]
    exact hc.at_ (by simpa [entv] using hu)
  · intro g cap w5 ho5 hg5 hor hlt
    refine hK g cap w5 ?_ ?_
    · unfold EntsAt
      rw [entv_append, List.length_append]
      exact ho5
    · refine Fr.row hg5 hbase fun k hk => ?_
      refine ⟨(World.ownsRow.lt h k hk).1, fun o ho => ?_⟩
      rcases h.2 with ⟨rfl, -⟩ | ⟨g, cap, cur, rfl, -, hh, -⟩
      · cases hk
      · have : g = k := by simpa [Value.ownBlock] using hk
        subst this
        rw [hh] at ho
        injection ho with ho
        subst ho
        rfl
theorem EntsAt.fr {w w' : World} {B base : Nat} {v : Value} {es : List Ent} {T : Obj → Prop} (h : EntsAt w base v es) (hf : Fr B T w w') (hT : ∀ cs r, ¬ T (.cells cs 76 r)) : EntsAt w' base v es := Items.own_fr h hf hT

/-- Where the loop over entries stands. -/
structure LS (w W : World) (B rb : Nat) (A : Option Addr) (c : Nat) (l : List UInt8) (a g1 g2 g3 g4 n : Nat) (l1 : List UInt8) (j : Nat) (es : List Ent) (v : Value) (a1 : Nat) : Prop where
  bs : BS w W B rb A c l a g1 g2 g3 g4 a1 v
  ents : EntsAt W w.heap.size v es
  len : es.length = j
  ok : ∀ e ∈ es, okE e
  le : a1 ≤ l.length
  cut : l1 = Rec.ents es ++ l.drop a1
end Go.Proofs.Ytndhmdengadmjaa.RecW
