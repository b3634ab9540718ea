/- The walk of granarylaw1.both: the blocks as the program has them. -/
import Derived.Test.YtndiionpijjdbaaDoorSweepF
import Derived.Test.YtndiionpijjdbaaDoorStill
import Derived.Deep.RegionHeld3
import Derived.Outline
set_option linter.unusedVariables false
namespace Go.Proofs.YtndiionpijjdbaaDoor.SwW
open Go.RowKit I64 Stab

/-- The cells of n blocks. -/
def flatB (S : Nat → Blk) : Nat → List Value
  | 0 => []
  | n + 1 => flatB S n ++ [.bool (S n).u, .int .i64 (S n).lv, .int .i64 (S n).wr]
theorem flatB_len (S : Nat → Blk) (n : Nat) : (flatB S n).length = n * 3 := by
  induction n with
  | zero => rfl
  | succ n ih => unfold flatB; rw [List.length_append, ih]; simp; omega
theorem flatB_at (S : Nat → Blk) (n i j : Nat) (hi : i < n) (u : Value) (h : [Value.bool (S i).u, .int .i64 (S i).lv, .int .i64 (S i).wr][j]? = some u) : (flatB S n)[i * 3 + j]? = some u := by
  induction n with
  | zero => omega
  | succ n ih =>
    have hj : j < 3 := by
      have := (List.getElem?_eq_some_iff.1 h).1
      simpa using this
    unfold flatB
    by_cases e : i = n
    · subst e
      rw [List.getElem?_append_right (by rw [flatB_len]; omega), flatB_len, show i * 3 + j - i * 3 = j from by omega]
      exact h
    · rw [List.getElem?_append_left (by rw [flatB_len]; omega)]
      exact ih (by omega)
theorem blk_info : (Tryd.prog.info? 42).map (fun i => (i.zero, i.size, i.bytes)) = some (some (.agg #[.bool false, .int .i64 0, .int .i64 0]), 3, 24) := by kernel_rfl
/-- append of one block. -/
theorem wpList_append_blk (w : World) {ops : Array Oper} {rest : List Oper} {o : Oper} {a : Act} {Q : Exit → Act → World → Prop} (hgd : o.guard = none) (s x : Operand)
    (ho : o.op = .call { callee := .builtin .append, args := #[s, x], argTypes := #[23, 23] })
    (base : Nat) (v : Value) (n : Nat) (S : Nat → Blk) (hs : a.eval s = v) (hown : w.ownsRow base 42 3 v n (flatB S n)) (hn2 : (n + 1) * 24 ≤ 140737488355328)
    (ad : Addr) (hx : a.eval x = .slice (some ad) 1 1) (hc : ∀ j u, [Value.bool (S n).u, .int .i64 (S n).lv, .int .i64 (S n).wr][j]? = some u → w.cell? (ad.add j) = some u) (hbase : base ≤ w.heap.size)
    (h : ∀ D c' w', w'.ownsRow base 42 3 (.slice D (n + 1) c') (n + 1) (flatB S (n + 1)) → n + 1 ≤ c' → w.grownBy w' v.ownBlock → wpList Tryd.prog ops Q rest (a.put o.dst (.slice D (n + 1) c')) w') :
    wpList Tryd.prog ops Q (o :: rest) a w := by
  refine wpList_plain hgd fun K hK => ?_
  obtain ⟨i0, hi0, hz0, hz1, hz2⟩ := info_parts blk_info
  obtain ⟨v', w', hrun, h2, h3, -, h5⟩ := run_append_own_at (P := Tryd.prog) w base 23 o.type 42 i0 _ 3 24 Tryd.underlying23 hi0 hz0 hz1 hz2 rfl (by omega) v n (flatB S n) hown ad 1 1 [.bool (S n).u, .int .i64 (S n).lv, .int .i64 (S n).wr] rfl hc (by intro u hu; simp at hu; rcases hu with rfl | rfl | rfl <;> rfl) (by simp only [maxLen]; omega) hn2 hbase
  have hform : ∃ D c', v' = .slice D (n + 1) c' ∧ n + 1 ≤ c' := by
    rcases h2.2 with ⟨e1, e2⟩ | ⟨g, cap, cur, e1, -, -, e3, -⟩
    · omega
    · exact ⟨_, cap, e1, e3⟩
  obtain ⟨D, c', rfl, hc'⟩ := hform
  unfold Oper.wp execOp
  simp only [ho, resolve, invoke, builtin, Sem.run_bind, Sem.run_pure, Result.andThen_ok, List.map_toArray, List.map_cons, List.map_nil, hs, hx, hrun]
  exact hK _ _ (h D c' w' h2 hc' h3)

/-- append of one block, in a region that draws its order. -/
theorem step_append_blk (w : World) {ops : Array Oper} {o : Oper} {a : Act} {K : Act → World → Prop} {Q : Exit → Act → World → Prop} {E : Prop} (hgd : o.guard = none) (s x : Operand)
    (ho : o.op = .call { callee := .builtin .append, args := #[s, x], argTypes := #[23, 23] })
    (base : Nat) (v : Value) (n : Nat) (S : Nat → Blk) (hs : a.eval s = v) (hown : w.ownsRow base 42 3 v n (flatB S n)) (hn2 : (n + 1) * 24 ≤ 140737488355328)
    (ad : Addr) (hx : a.eval x = .slice (some ad) 1 1) (hc : ∀ j u, [Value.bool (S n).u, .int .i64 (S n).lv, .int .i64 (S n).wr][j]? = some u → w.cell? (ad.add j) = some u) (hbase : base ≤ w.heap.size)
    (h : ∀ D c' w', w'.ownsRow base 42 3 (.slice D (n + 1) c') (n + 1) (flatB S (n + 1)) → n + 1 ≤ c' → w.grownBy w' v.ownBlock → K (a.put o.dst (.slice D (n + 1) c')) w') :
    if Region.wanted o (yielded ops a.tmps) = true then Oper.wp Tryd.prog o a w K Q else E := by
  have hw : Region.wanted o (yielded ops a.tmps) = true := by simp [Region.wanted, hgd]
  rw [if_pos hw]
  obtain ⟨i0, hi0, hz0, hz1, hz2⟩ := info_parts blk_info
  obtain ⟨v', w', hrun, h2, h3, -, h5⟩ := run_append_own_at (P := Tryd.prog) w base 23 o.type 42 i0 _ 3 24 Tryd.underlying23 hi0 hz0 hz1 hz2 rfl (by omega) v n (flatB S n) hown ad 1 1 [.bool (S n).u, .int .i64 (S n).lv, .int .i64 (S n).wr] rfl hc (by intro u hu; simp at hu; rcases hu with rfl | rfl | rfl <;> rfl) (by simp only [maxLen]; omega) hn2 hbase
  have hform : ∃ D c', v' = .slice D (n + 1) c' ∧ n + 1 ≤ c' := by
    rcases h2.2 with ⟨e1, e2⟩ | ⟨g, cap, cur, e1, -, -, e3, -⟩
    · omega
    · exact ⟨_, cap, e1, e3⟩
  obtain ⟨D, c', rfl, hc'⟩ := hform
  unfold Oper.wp execOp
  simp only [ho, resolve, invoke, builtin, Sem.run_bind, Sem.run_pure, Result.andThen_ok, List.map_toArray, List.map_cons, List.map_nil, hs, hx, hrun]
  exact h D c' w' h2 hc' h3

/-- What both leaves. -/
def BoP (w : World) (S : Nat → Blk) (n : Nat) (e : Ending) (w' : World) : Prop :=
  ∃ D c', e = .returned (.slice D n c') ∧ n ≤ c' ∧ w'.ownsRow w.heap.size 42 3 (.slice D n c') n (flatB S n) ∧ Below w.heap.size w w'
attribute [local irreducible] flatB
set_option maxRecDepth 20000 in
set_option maxHeartbeats 4000000 in
theorem both_any (A : Option Addr) (n c : Nat) (S : Nat → Blk) (T : Nat) (w : World) (hr : RdB w A n S T) (hT : T ≤ w.heap.size) (hn : n * 24 ≤ 140737488351232) :
    Calls Tryd.prog 5 #[.slice A n c] w (BoP w S n) := by
  have HR := hide hr
  have HT := hide hT
  clear hr hT
  go_enter Tryd.func5, Tryd.ntmps5
  go_wp2_with fail
  go_loopw [3, 4] (fun v i wr => ∃ (k cc : Nat) (D : Option Addr), v = .slice D k cc ∧ i = .int .i64 k ∧ k ≤ n ∧ k ≤ cc ∧ Hid (wr.ownsRow w.heap.size 42 3 (.slice D k cc) k (flatB S k)) ∧ Hid (Below w.heap.size w wr)) (fun _ i _ => n - (intOf i).toNat)
  case atStart => exact ⟨0, 0, none, rfl, rfl, by omega, by omega, hide (by unfold flatB; exact World.ownsRow_nil _ _ _ _), hide (Below.refl _ _)⟩
  case round =>
    obtain ⟨k, cc, D, rfl, rfl, hk, hkc, HO, HB⟩ := hrel
    by_cases hlt : k < n
    · have e1 : decide (k < n) = true := by simpa using hlt
      have e1' : decide ((k : Int) < (n : Int)) = true := by simp; omega
      have hki : (k : Int) < (n : Int) := by omega
      obtain ⟨b, off, rfl, hbT, z0, z1, z2⟩ := (HR.out.below HB.out HT.out) k hlt
      have q0 : (0 : Int) ≤ (k : Int) := by omega
      go_wp2_with fail
      obtain ⟨x0, hx0⟩ : ∃ x0, x0 = (S k).u := ⟨_, rfl⟩
      obtain ⟨x1, hx1⟩ : ∃ x1, x1 = (S k).lv := ⟨_, rfl⟩
      obtain ⟨x2, hx2⟩ : ∃ x2, x2 = (S k).wr := ⟨_, rfl⟩
      have HX : Hid (x0 = (S k).u ∧ x1 = (S k).lv ∧ x2 = (S k).wr) := hide ⟨hx0, hx1, hx2⟩
      rw [← hx0] at z0
      rw [← hx1] at z1
      rw [← hx2] at z2
      clear hx0 hx1 hx2
      have hbX : Below w.heap.size w wr.drew := HB.out.drew
      have hbA := hbX.alloc hbX.size (.cells #[.bool x0, .int .i64 x1, .int .i64 x2] 42)
      have HOA : Hid ((wr.drew.alloc (.cells #[.bool x0, .int .i64 x1, .int .i64 x2] 42)).ownsRow w.heap.size 42 3 (.slice D k cc) k (flatB S k)) := hide (own_below HO.out ((Below.refl wr.heap.size wr).drew.alloc (Nat.le_refl _) _) (Nat.le_refl _))
      have HBA := hide hbA
      have HBX := hide hbX
      have HCA : Hid (∀ j u, [Value.bool (S k).u, .int .i64 (S k).lv, .int .i64 (S k).wr][j]? = some u → (wr.drew.alloc (.cells #[.bool x0, .int .i64 x1, .int .i64 x2] 42)).cell? ((⟨wr.heap.size, 0, none⟩ : Addr).add j) = some u) := hide (fun j u hu => by
        rw [← HX.out.1, ← HX.out.2.1, ← HX.out.2.2] at hu
        rw [Addr.add_lit, Nat.zero_add, ← hu]
        exact (World.cell?_alloc_new wr.drew _ _ j).trans (by simp))
      have HCELLS : Hid (∀ wq : World, Below w.heap.size w wq → wq.cell? ⟨b, off + k * 3, none⟩ = some (.bool x0) ∧ wq.cell? ⟨b, off + k * 3 + 1, none⟩ = some (.int .i64 x1) ∧ wq.cell? ⟨b, off + k * 3 + 2, none⟩ = some (.int .i64 x2)) := hide (fun wq h => by
        have hb1 : b < w.heap.size := Nat.lt_of_lt_of_le hbT HT.out
        rw [h.cell (p := ⟨b, _, none⟩) hb1, h.cell (p := ⟨b, _, none⟩) hb1, h.cell (p := ⟨b, _, none⟩) hb1, ← HB.out.cell (p := ⟨b, _, none⟩) hb1, ← HB.out.cell (p := ⟨b, _, none⟩) hb1, ← HB.out.cell (p := ⟨b, _, none⟩) hb1]
        exact ⟨z0, z1, z2⟩)
      clear hbX hbA z0 z1 z2
      go_region_held3 (fun w' => w'.cell? ⟨b, off + k * 3, none⟩ = some (.bool x0) ∧ w'.cell? ⟨b, off + k * 3 + 1, none⟩ = some (.int .i64 x1) ∧ w'.cell? ⟨b, off + k * 3 + 2, none⟩ = some (.int .i64 x2))
        (first | exact HCELLS.out _ HBX.out | exact HCELLS.out _ HBA.out | exact HCELLS.out _ HB'.out)
        (first
          | (refine step_append_blk _ rfl (.tmp 11) (.tmp 28) rfl w.heap.size (.slice D k cc) k S rfl HOA.out (by omega) ⟨wr.heap.size, 0, none⟩ rfl HCA.out HBA.out.size ?_
             intro D' c' w' ho' hc' hg'
             have HO' := hide ho'
             have HB' := hide (HBA.out.grown hg' HBA.out.size (fun k h => (HOA.out.lt k h).1))
             clear ho' hg'))
      go_wp2_with fail
      go_roundw
      case rel => exact ⟨k + 1, c', D', rfl, by go_num, by omega, hc', HO', HB'⟩
      case measure => simp [intOf]; omega
    · obtain rfl : k = n := by omega
      have e1 : decide (k < k) = false := by simp
      have e1' : decide ((k : Int) < (k : Int)) = false := by simp
      go_wp2_with fail
      go_ret
      exact ⟨D, cc, rfl, hkc, HO.out, HB.out⟩
end Go.Proofs.YtndiionpijjdbaaDoor.SwW
