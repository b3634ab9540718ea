/- The walk of buffer.New. -/
import Derived.Test.YtndhmdengadmjaaDoorBufE
set_option linter.unusedVariables false
namespace Go.Proofs.YtndhmdengadmjaaDoor.BufW
open Go.RowKit I64 IdMap Ring BufP

set_option maxHeartbeats 1000000 in
theorem new_bad (most : Int) (w : World) (h : most < 1 ∨ 16 < most) : Calls Tryd.prog 11 #[.int .i64 most] w fun e w' => e = .returned (.tuple #[.pointer none, errV 1]) ∧ w' = w := by
  unfold errV
  by_cases h1 : most < 1
  · have d1 : decide (most < 1) = true := decide_eq_true h1
    clear h h1
    go_enter Tryd.func11, Tryd.ntmps11
    go_wp2_with fail
    go_ret2
    exact ⟨rfl, rfl⟩
  · have d1 : decide (most < 1) = false := decide_eq_false h1
    have d2 : decide (most > 16) = true := decide_eq_true (by omega)
    clear h h1
    go_enter Tryd.func11, Tryd.ntmps11
    go_wp2_with fail
    go_ret2
    exact ⟨rfl, rfl⟩

set_option maxHeartbeats 1000000 in
theorem new_any (most : Int) (w : World) (h1 : 1 ≤ most) (h2 : most ≤ 16) : Calls Tryd.prog 11 #[.int .i64 most] w fun e w' => ∃ g, e = .returned (.tuple #[ptr g, .nilIface]) ∧ BufAt w' w.heap.size g most [] ∧ Below w.heap.size w w' := by
  have d1 : decide (most < 1) = false := decide_eq_false (by omega)
  have d2 : decide (most > 16) = false := decide_eq_false (by omega)
  have H1 := hide (And.intro h1 h2)
  clear h1 h2
  have q := fun w => run_makeMap (P := Tryd.prog) 73 w
  go_enter Tryd.func11, Tryd.ntmps11
  go_wp2_with (first
    | (go_at_call 23
       refine (open_any w.heap.size w.heap.size _ (Bk.new w 71 #[.int .i64 0, .bool false, .slice none 0 0, .pointer none, .pointer none]) (Nat.le_refl _)).mono ?_
       rintro e w1 ⟨rfl, hk1, hf1⟩
       have HK1 := hide hk1
       have HF1 := hide hf1
       clear hk1 hf1
       unfold ptr)
    | fail)
  go_ret2
  have hB1 : w.heap.size ≤ w1.heap.size := by have := HF1.out.size; rw [show (w.alloc (Obj.cells #[Value.int .i64 0, Value.bool false, Value.slice none 0 0, Value.pointer none, Value.pointer none] 71)).heap.size = w.heap.size + 1 from by simp] at this; omega
  have f2 : Fr w.heap.size never w1 (w1.alloc (.map #[] 0)) := (Fr.refl _ _ _).alloc hB1 _
  have f3 : Fr w.heap.size never (w1.alloc (.map #[] 0)) ((w1.alloc (.map #[] 0)).alloc (.cells #[.int .i64 most, ptr w.heap.size, .map (some w1.heap.size)] 75)) := (Fr.refl _ _ _).alloc (Nat.le_trans hB1 f2.size) _
  have k3 := Bk.new (w1.alloc (.map #[] 0)) 75 #[.int .i64 most, ptr w.heap.size, .map (some w1.heap.size)]
  rw [show (w1.alloc (.map #[] 0)).heap.size = w1.heap.size + 1 from by simp] at k3
  refine ⟨_, rfl, ⟨w.heap.size, w1.heap.size, [], fun _ => w.heap.size, fun _ => w.heap.size, k3, hB1, ?_, (made w1).fr f3 (fun _ _ h => h), rfl, by simp [Once, lbas], by simpa using (by have := H1.out.1; omega : (0 : Int) ≤ most), H1.out.2, fun x hx => (by cases hx)⟩, ?_⟩
  · exact { root := f3.bk (f2.bk HK1.out (fun h => h)) (fun h => h), low := Nat.le_refl _, ents := fun e he => (by cases he), cyc := Ring.empty _ _ _ rfl rfl, nodup := by simp }
  · exact (((Below.refl _ _).alloc (Nat.le_refl _) _).trans HF1.out.low).trans (f2.low.trans f3.low)
end Go.Proofs.YtndhmdengadmjaaDoor.BufW
