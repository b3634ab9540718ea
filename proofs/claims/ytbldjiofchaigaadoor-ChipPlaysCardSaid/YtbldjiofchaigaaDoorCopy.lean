/- 'copy' of bytes into a block: what is in it then; nothing else is turned. -/
import Derived.Test.YtbldjiofchaigaaDoorBytes
import Derived.Laws.CopyOwn
set_option linter.unusedVariables false
namespace Go.Proofs.YtbldjiofchaigaaDoor.CopyW
open Go.RowKit

theorem u8_size1 : (Tryd.prog.info? 5).map (·.size) = some 1 := by kernel_rfl
theorem grown_setRow (w : World) (g : Nat) (cs : Array Value) : w.grownBy (w.setRow g cs) (some g) :=
  ⟨rfl, rfl, rfl, by simp [World.setRow], fun k _ hk => setRow_other w g k cs (fun e => hk (by rw [e]))⟩
theorem grown_refl (w : World) (r : Option Nat) : w.grownBy w r := ⟨rfl, rfl, rfl, Nat.le_refl _, fun _ _ _ => rfl⟩
theorem rd_src {w : World} {A : Option Addr} {xs : List Value} (h : Rd w A xs) (hx : 0 < xs.length) : ∃ ad, A = some ad ∧ ∀ j v, xs[j]? = some v → w.cell? (ad.add j) = some v := by
  obtain ⟨b, off, hA, _⟩ := h.form hx
  exact ⟨_, hA, fun j v hv => h.cells _ hA j v hv⟩

theorem step_copy_grown {ops : Array Oper} {o : Oper} {a : Act} {w : World} {K : Act → World → Prop} {Q : Exit → Act → World → Prop} {E : Prop} (hgd : o.guard = none) (d s : Operand)
    (ho : o.op = .call { callee := .builtin .copy, args := #[d, s], argTypes := #[33, 33] })
    (dp sp : Option Addr) (dLen dCap sLen sCap : Nat) (hd : a.eval d = .slice dp dLen dCap) (hs : a.eval s = .slice sp sLen sCap)
    (g off : Nat) (cur : List Value) (hg : Bk w g 5 cur.toArray) (cs : List Value) (hn : cs.length = Nat.min sLen dLen)
    (hpos : 0 < cs.length → dp = some ⟨g, off, none⟩ ∧ Rd w sp cs)
    (hfit : off + cs.length ≤ cur.length) (h1 : ∀ v ∈ cs, v.oneCell' = true)
    (h : ∀ w', Hid (Bk w' g 5 (splice cur off cs).toArray) → w.grownBy w' (some g) → K (a.put o.dst (.int .i64 (cs.length : Int))) w') :
    if Region.wanted o (yielded ops a.tmps) = true then Oper.wp Tryd.prog o a w K Q else E := by
  have hw : Region.wanted o (yielded ops a.tmps) = true := by simp [Region.wanted, hgd]
  rw [if_pos hw]
  by_cases h0 : cs.length = 0
  · obtain rfl : cs = [] := List.eq_nil_of_length_eq_zero h0
    have hrun := run_copy_none (P := Tryd.prog) w 33 33 o.type 5 dp sp dLen dCap sLen sCap Tryd.underlying33 u8_size1 (by simpa using hn.symm)
    unfold Oper.wp
    simp [execOp, ho, resolve, invoke, builtin, hd, hs, hrun, Result.andThen]
    exact h w (hide (by unfold Bk at hg ⊢; simpa [splice] using hg)) (grown_refl _ _)
  · obtain ⟨rfl, hr⟩ := hpos (by omega)
    obtain ⟨ad, rfl, hsrc⟩ := rd_src hr (by omega)
    have hrun := run_copy_row (P := Tryd.prog) w 33 33 o.type 5 g off dLen dCap ad sLen sCap cur.toArray 5 cs Tryd.underlying33 u8_size1 hg hn hsrc (by simpa using hfit) h1
    unfold Oper.wp
    simp [execOp, ho, resolve, invoke, builtin, hd, hs, hrun, Result.andThen]
    exact h _ (show _ = _ by simpa [splice] using setRow_heap w g _ _ 5 _ hg) (grown_setRow _ _ _)

theorem wpList_copy_grown {w : World} {ops : Array Oper} {rest : List Oper} {o : Oper} {a : Act} {Q : Exit → Act → World → Prop} (hgd : o.guard = none) (d s : Operand)
    (ho : o.op = .call { callee := .builtin .copy, args := #[d, s], argTypes := #[33, 33] })
    (dp sp : Option Addr) (dLen dCap sLen sCap : Nat) (hd : a.eval d = .slice dp dLen dCap) (hs : a.eval s = .slice sp sLen sCap)
    (g off : Nat) (cur : List Value) (hg : Bk w g 5 cur.toArray) (cs : List Value) (hn : cs.length = Nat.min sLen dLen)
    (hpos : 0 < cs.length → dp = some ⟨g, off, none⟩ ∧ Rd w sp cs)
    (hfit : off + cs.length ≤ cur.length) (h1 : ∀ v ∈ cs, v.oneCell' = true)
    (h : ∀ w', Hid (Bk w' g 5 (splice cur off cs).toArray) → w.grownBy w' (some g) → wpList Tryd.prog ops Q rest (a.put o.dst (.int .i64 (cs.length : Int))) w') :
    wpList Tryd.prog ops Q (o :: rest) a w := by
  refine wpList_plain hgd fun K hK => ?_
  by_cases h0 : cs.length = 0
  · obtain rfl : cs = [] := List.eq_nil_of_length_eq_zero h0
    have hrun := run_copy_none (P := Tryd.prog) w 33 33 o.type 5 dp sp dLen dCap sLen sCap Tryd.underlying33 u8_size1 (by simpa using hn.symm)
    unfold Oper.wp
    simp [execOp, ho, resolve, invoke, builtin, hd, hs, hrun, Result.andThen]
    exact hK _ _ (h w (hide (by unfold Bk at hg ⊢; simpa [splice] using hg)) (grown_refl _ _))
  · obtain ⟨rfl, hr⟩ := hpos (by omega)
    obtain ⟨ad, rfl, hsrc⟩ := rd_src hr (by omega)
    have hrun := run_copy_row (P := Tryd.prog) w 33 33 o.type 5 g off dLen dCap ad sLen sCap cur.toArray 5 cs Tryd.underlying33 u8_size1 hg hn hsrc (by simpa using hfit) h1
    unfold Oper.wp
    simp [execOp, ho, resolve, invoke, builtin, hd, hs, hrun, Result.andThen]
    exact hK _ _ (h _ (show _ = _ by simpa [splice] using setRow_heap w g _ _ 5 _ hg) (grown_setRow _ _ _))
end Go.Proofs.YtbldjiofchaigaaDoor.CopyW
