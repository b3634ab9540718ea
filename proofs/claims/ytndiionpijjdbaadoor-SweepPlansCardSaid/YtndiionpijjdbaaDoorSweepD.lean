/- The walk of the comparison that sweep.order hands to the sort. -/
import Derived.Test.YtndiionpijjdbaaDoorSweepC
import Derived.Deep.RegionHeld3
set_option linter.unusedVariables false
namespace Go.Proofs.YtndiionpijjdbaaDoor.SwW
open Go.RowKit I64 Stab

set_option maxRecDepth 20000 in
set_option maxHeartbeats 4000000 in
theorem less_any (q n c : Nat) (A : Option Addr) (S : Nat → Blk) (T : Nat) (W0 : World) (hq : W0.cell? ⟨q, 0, none⟩ = some (.slice A n c)) (hr : RdB W0 A n S T) (B : Nat) (hqB : q < B) (hTB : T ≤ B) (hnM : n ≤ 9223372036854775807) :
    CmpOk W0 B (.pointer (some ⟨q, 0, none⟩)) (ckey S) n := by
  intro w x y hW hx0 hxn hy0 hyn
  obtain ⟨i, rfl⟩ : ∃ i : Nat, x = i := ⟨x.toNat, by omega⟩
  obtain ⟨k, rfl⟩ : ∃ k : Nat, y = k := ⟨y.toNat, by omega⟩
  have cq : w.cell? ⟨q, 0, none⟩ = some (.slice A n c) := (hW.cell (p := ⟨q, 0, none⟩) hqB).trans hq
  have hr2 := hr.below hW hTB
  obtain ⟨b, off, rfl, hbT, i0, i1, i2⟩ := hr2 i (by omega)
  obtain ⟨b', off', he, -, k0, k1, k2⟩ := hr2 k (by omega)
  injection he with he
  injection he with he1 he2
  subst he1 he2
  have HV : Hid (ckey S (i : Int) (k : Int) = if cmpv (S i).lv (S k).lv ≠ 0 then cmpv (S i).lv (S k).lv else cmpv (S i).wr (S k).wr) := hide (by unfold ckey; rw [Int.toNat_natCast, Int.toNat_natCast])
  obtain ⟨li, hli⟩ : ∃ li, li = (S i).lv := ⟨_, rfl⟩
  obtain ⟨lk, hlk⟩ : ∃ lk, lk = (S k).lv := ⟨_, rfl⟩
  obtain ⟨wi, hwi⟩ : ∃ wi, wi = (S i).wr := ⟨_, rfl⟩
  obtain ⟨wk, hwk⟩ : ∃ wk, wk = (S k).wr := ⟨_, rfl⟩
  rw [← hli, ← hlk, ← hwi, ← hwk] at HV
  rw [← hli] at i1
  rw [← hlk] at k1
  rw [← hwi] at i2
  rw [← hwk] at k2
  have HLT : Hid (b < w.heap.size ∧ q < w.heap.size) := hide ⟨World.block_lt_of_cell? w _ i1, World.block_lt_of_cell? w _ cq⟩
  have hin : (i : Int) < (n : Int) := hxn
  have hkn : (k : Int) < (n : Int) := hyn
  obtain ⟨v1, hv1⟩ : ∃ v1, v1 = cmpv li lk := ⟨_, rfl⟩
  obtain ⟨v2, hv2⟩ : ∃ v2, v2 = cmpv wi wk := ⟨_, rfl⟩
  rw [← hv1, ← hv2] at HV
  have HC1 : Hid (∀ w : World, Calls Tryd.prog 21 #[.int .i64 li, .int .i64 lk] w fun e w' => e = .returned (.int .i64 v1) ∧ w = w') := hide (fun w => by rw [hv1]; exact compare_any li lk w)
  have HC2 : Hid (∀ w : World, Calls Tryd.prog 21 #[.int .i64 wi, .int .i64 wk] w fun e w' => e = .returned (.int .i64 v2) ∧ w = w') := hide (fun w => by rw [hv2]; exact compare_any wi wk w)
  have HOR : Hid (Calls Tryd.prog 20 #[.slice (some ⟨w.heap.size, 0, none⟩) 2 2] (w.alloc (.cells #[.int .i64 v1, .int .i64 v2] 3)).drew fun e w' => e = .returned (.int .i64 (if v1 ≠ 0 then v1 else v2)) ∧ (w.alloc (.cells #[.int .i64 v1, .int .i64 v2] 3)).drew = w') := hide (or_any v1 v2 w.heap.size _ ((Bk.new w 3 #[.int .i64 v1, .int .i64 v2]).drew.at_ (i := 0) (u := .int .i64 v1) rfl) ((Bk.new w 3 #[.int .i64 v1, .int .i64 v2]).drew.at_ (i := 1) (u := .int .i64 v2) rfl))
  obtain ⟨v0, hv0⟩ : ∃ v0, v0 = if v1 ≠ 0 then v1 else v2 := ⟨_, rfl⟩
  rw [← hv0] at HOR HV
  have HBA : Hid (Below w.heap.size w (w.alloc (.cells #[.int .i64 v1, .int .i64 v2] 3)).drew) := hide ((Below.refl _ _).alloc (Nat.le_refl _) _).drew
  have HKA : Hid (∀ p u, p.block < w.heap.size → w.cell? p = some u → ((w.alloc (.cells #[.int .i64 v1, .int .i64 v2] 3)).drew).cell? p = some u) := hide (fun p u h1 h2 => (HBA.out.cell h1).trans h2)
  have HLL : Hid (b < w.heap.size ∧ q < w.heap.size) := HLT
  clear hq hr hW hx0 hxn hy0 hyn hr2 i0 k0 hli hlk hwi hwk hv1 hv2 hbT hqB hTB hv0
  go_enter Tryd.func19, Tryd.ntmps19
  go_wp2_with fail
  go_region_held3 (fun w' => w'.cell? ⟨q, 0, none⟩ = some (.slice (some ⟨b, off, none⟩) n c) ∧ w'.cell? ⟨b, off + i * 3 + 1, none⟩ = some (.int .i64 li) ∧ w'.cell? ⟨b, off + i * 3 + 2, none⟩ = some (.int .i64 wi) ∧ w'.cell? ⟨b, off + k * 3 + 1, none⟩ = some (.int .i64 lk) ∧ w'.cell? ⟨b, off + k * 3 + 2, none⟩ = some (.int .i64 wk))
    (first | exact ⟨cq, i1, i2, k1, k2⟩ | exact ⟨HKA.out _ _ HLL.out.2 cq, HKA.out _ _ HLL.out.1 i1, HKA.out _ _ HLL.out.1 i2, HKA.out _ _ HLL.out.1 k1, HKA.out _ _ HLL.out.1 k2⟩)
    (first
      | (go_at_call 21
         first
           | (with_reducible refine (HC1.out _).mono ?_
              rintro e w2 ⟨rfl, rfl⟩)
           | (with_reducible refine (HC2.out _).mono ?_
              rintro e w2 ⟨rfl, rfl⟩))
      | (go_at_call 20
         with_reducible refine HOR.out.mono ?_
         rintro e w2 ⟨rfl, rfl⟩))
  all_goals go_wp2_with fail
  all_goals (go_ret; exact ⟨by rw [HV.out]; rfl, HBA.out⟩)
end Go.Proofs.YtndiionpijjdbaaDoor.SwW
