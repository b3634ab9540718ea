/- What a call leaves as it was, told by the kinds of blocks that it writes. -/
import Derived.Test.YtndhmdengadmjaaDoorI64
namespace Go.Proofs.YtndhmdengadmjaaDoor
open Go.RowKit I64

/-- Below B nothing is written; from B on only blocks of the kinds T (and new ones). -/
structure Fr (B : Nat) (T : Obj → Prop) (w w' : World) : Prop where
  low : Below B w w'
  keep : ∀ (x : Nat) (o : Obj), w.heap[x]? = some o → ¬ T o → w'.heap[x]? = some o

section
variable {B : Nat} {T T' : Obj → Prop} {a b c w w' : World}
theorem Fr.refl (B : Nat) (T : Obj → Prop) (w : World) : Fr B T w w := ⟨Below.refl _ _, fun _ _ h _ => h⟩
theorem Fr.mono (h : Fr B T a b) (hT : ∀ o, T o → T' o) : Fr B T' a b := ⟨h.low, fun x o hx hn => h.keep x o hx fun ht => hn (hT o ht)⟩
theorem Fr.base (h : Fr B T a b) {B' : Nat} (hB : B' ≤ B) : Fr B' T a b := ⟨h.low.mono hB, h.keep⟩
theorem Fr.trans (h : Fr B T a b) (k : Fr B T b c) : Fr B T a c := ⟨h.low.trans k.low, fun x o hx hn => k.keep x o (h.keep x o hx hn) hn⟩
theorem Fr.drew (h : Fr B T a w) : Fr B T a w.drew := ⟨h.low.drew, h.keep⟩
theorem Fr.of_below (h : Below w.heap.size w w') (hB : B ≤ w.heap.size) : Fr B T w w' :=
  ⟨h.mono hB, fun x o hx _ => by rw [h.block x (Array.getElem?_eq_some_iff.1 hx).1]; exact hx⟩
theorem Fr.alloc (h : Fr B T a w) (hB : B ≤ w.heap.size) (o : Obj) : Fr B T a (w.alloc o) := h.trans (Fr.of_below ((Below.refl _ _).alloc (Nat.le_refl _) o) hB)
theorem Fr.set {w : World} {p : Addr} {t : TypeId} {cs : Array Value} (hp : Bk w p.block t cs) (hB : B ≤ p.block) (hT : T (.cells cs t (0, 0))) (u : Value) : Fr B T w (w.setCell p u) :=
  ⟨(Below.refl _ _).setCell hB u, fun x o hx hn => by
    rw [Below.heap_setCell w p u x ?_]; exact hx
    rintro rfl
    unfold Bk at hp
    rw [hp] at hx
    injection hx with hx
    subst hx
    exact hn hT⟩
theorem Fr.size (h : Fr B T w w') : w.heap.size ≤ w'.heap.size := h.low.size
theorem Fr.bk {g : Nat} {t : TypeId} {cs : Array Value} (h : Fr B T w w') (hk : Bk w g t cs) (hT : ¬ T (.cells cs t (0, 0))) : Bk w' g t cs := h.keep g _ hk hT
theorem Fr.row {r : Option Nat} (hg : w.grownBy w' r) (hB : B ≤ w.heap.size) (hr : ∀ k, r = some k → B ≤ k ∧ ∀ o, w.heap[k]? = some o → T o) : Fr B T w w' :=
  ⟨below_of_grown hg hB fun k e => (hr k e).1, fun x o hx hn => by
    rw [hg.block x (Array.getElem?_eq_some_iff.1 hx).1 (fun e => hn ((hr x e.symm).2 o hx))]; exact hx⟩
end

/-- A slice's block: below B, or of the kind t. -/
def Dt (w : World) (B : Nat) (t : TypeId) (A : Option Addr) : Prop := ∀ ad, A = some ad → ad.block < B ∨ ∃ cs r, w.heap[ad.block]? = some (.cells cs t r)
theorem Dt.fr {w w' : World} {B : Nat} {t : TypeId} {A : Option Addr} {T : Obj → Prop} (h : Dt w B t A) (hf : Fr B T w w') (hT : ∀ cs r, ¬ T (.cells cs t r)) : Dt w' B t A := by
  intro ad e
  rcases h ad e with h1 | ⟨cs, r, h1⟩
  · exact .inl h1
  · exact .inr ⟨cs, r, hf.keep _ _ h1 (hT cs r)⟩
theorem Dt.rd {w w' : World} {B : Nat} {t : TypeId} {A : Option Addr} {T : Obj → Prop} {xs : List Value} (h : Dt w B t A) (hr : Rd w A xs) (hf : Fr B T w w') (hT : ∀ cs r, ¬ T (.cells cs t r)) : Rd w' A xs := by
  rcases hr with rfl | ⟨b, off, rfl, hc⟩
  · exact .inl rfl
  · refine .inr ⟨b, off, rfl, fun i u hu => ?_⟩
    have hb : w'.heap[b]? = w.heap[b]? := by
      rcases h _ rfl with h1 | ⟨cs, r, h1⟩
      · exact hf.low.block b h1
      · rw [h1]; exact hf.keep _ _ h1 (hT cs r)
    rw [World.cell?_of_block (w := w) hb]
    exact hc i u hu
theorem Dt.base {w : World} {B B' : Nat} {t : TypeId} {A : Option Addr} (h : Dt w B t A) (hB : B ≤ B') : Dt w B' t A := fun ad e => (h ad e).imp (fun h => Nat.lt_of_lt_of_le h hB) id
theorem Dt.of_own {w : World} {B base : Nat} {t : TypeId} {n c : Nat} {A : Option Addr} {size : Nat} {xs : List Value} (h : w.ownsRow base t size (.slice A n c) n xs) : Dt w B t A := by
  intro ad e
  subst e
  rcases h.2 with ⟨hv, -⟩ | ⟨g, cap, cur, hv, -, hh, -⟩
  · cases hv
  · injection hv with hv
    injection hv with hv
    subst hv
    exact .inr ⟨cur, (0, 0), hh⟩
end Go.Proofs.YtndhmdengadmjaaDoor
