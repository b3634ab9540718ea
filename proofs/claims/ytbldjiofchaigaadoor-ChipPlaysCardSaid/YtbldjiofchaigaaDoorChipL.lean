/- The chip's methods, told of a chip whole; a fact about it. -/
import Derived.Test.YtbldjiofchaigaaDoorChipN
import Derived.Test.YtbldjiofchaigaaDoorCOps
import Derived.Test.YtbldjiofchaigaaDoorTold
set_option linter.unusedVariables false
namespace Go.Proofs.YtbldjiofchaigaaDoor.ChipW
open Go.RowKit ChipP CopyW ToldW

section
variable {w : World} {O : Nat → Prop} {g : Geo} {s : St} {c : Nat}
theorem progA (h : ChipAt w O c g s) (hg : g.Ok) (die k page : Int) (A : Option Addr) (n cp : Nat) (l : List UInt8) (fault : Int) (hn : n = l.length) (hnc : n ≤ cp) (hr : Rd w A (u8v l)) (hA : u8v l ≠ [] → ∀ ad, A = some ad → O ad.block) (hn9 : n ≤ 140737488351232) :
    Calls Tryd.prog 11 #[.pointer (some ⟨c, 0, none⟩), .int .i64 die, .int .i64 k, .int .i64 page, .slice A n cp, .int .i64 fault] w (ErPost w O g c (progE g s die k page n fault) (progS g s die k page l fault)) := by
  obtain ⟨bb, pb, qb, h⟩ := h
  exact (prog_any h hg die k page A n cp l fault hn hnc hr hA hn9).mono fun e w' ⟨h1, h2, h3⟩ => ⟨h1, ⟨_, _, _, h2⟩, h3⟩
theorem erA (h : ChipAt w O c g s) (hg : g.Ok) (die k : Int) (fault : Int) (hO : ∀ j, O j → j < w.heap.size) (hw : ∀ k, (s.blk k).wr ≤ 1000000000000000) :
    Calls Tryd.prog 13 #[.pointer (some ⟨c, 0, none⟩), .int .i64 die, .int .i64 k, .int .i64 fault] w (ErPost w O g c (erE g s die k fault) (erS g s die k fault)) := by
  obtain ⟨bb, pb, qb, h⟩ := h
  exact er_any h hg die k fault hO hw
theorem onA (h : ChipAt w O c g s) : Calls Tryd.prog 12 #[.pointer (some ⟨c, 0, none⟩)] w fun e w' => e = .returned (.tuple #[]) ∧ ChipAt w' O c g (onS s) ∧ Keep O w w' := by
  obtain ⟨bb, pb, qb, h⟩ := h
  exact (on_any h).mono fun e w' ⟨h1, h2, h3⟩ => ⟨h1, ⟨_, _, _, h2⟩, h3⟩
theorem offA (h : ChipAt w O c g s) : Calls Tryd.prog 19 #[.pointer (some ⟨c, 0, none⟩)] w fun e w' => e = .returned (.bool s.off) ∧ w' = w := by
  obtain ⟨bb, pb, qb, h⟩ := h
  exact off_any h
theorem nextA (h : ChipAt w O c g s) (hg : g.Ok) (die k : Int) : Calls Tryd.prog 10 #[.pointer (some ⟨c, 0, none⟩), .int .i64 die, .int .i64 k] w fun e w' => e = .returned (.tuple #[.int .i64 (nxF g s die k), errV (atF g s die k)]) ∧ ∃ d, w' = w.drewN d := by
  obtain ⟨bb, pb, qb, h⟩ := h
  exact next_any h hg die k
theorem wearA (h : ChipAt w O c g s) (hg : g.Ok) (die k : Int) : Calls Tryd.prog 18 #[.pointer (some ⟨c, 0, none⟩), .int .i64 die, .int .i64 k] w fun e w' => e = .returned (.tuple #[.int .i64 (wrF g s die k), errV (atF g s die k)]) ∧ ∃ d, w' = w.drewN d := by
  obtain ⟨bb, pb, qb, h⟩ := h
  exact wear_any h hg die k
theorem badA (h : ChipAt w O c g s) (hg : g.Ok) (die k : Int) : Calls Tryd.prog 16 #[.pointer (some ⟨c, 0, none⟩), .int .i64 die, .int .i64 k] w fun e w' => e = .returned (.tuple #[.bool (badF g s die k), errV (atF g s die k)]) ∧ ∃ d, w' = w.drewN d := by
  obtain ⟨bb, pb, qb, h⟩ := h
  exact bad_any h hg die k
theorem readA (h : ChipAt w O c g s) (hg : g.Ok) (die k page : Int) : Calls Tryd.prog 14 #[.pointer (some ⟨c, 0, none⟩), .int .i64 die, .int .i64 k, .int .i64 page] w (RdPost w g s die k page) := by
  obtain ⟨bb, pb, qb, h⟩ := h
  exact read_any h hg die k page
end

set_option maxRecDepth 20000 in
set_option maxHeartbeats 2000000 in
theorem fact_any (w : World) (hE : ErrT w) : Calls Tryd.prog 8 #[] w fun e w' => e = .returned (.bool true) ∧ Below w.heap.size w w' := by
  have HE := hide hE
  have HNEW := hide (new_any w (fun j => j < w.heap.size) (fun _ h => h) 1 2 2 8 (by omega) (by omega))
  unfold geoV at HNEW
  clear hE
  go_enter Tryd.func8, Tryd.ntmps8
  go_wp2_with fail
  refine HNEW.out.mono ?_
  rintro e w1 ⟨hb1, ⟨hbad, -⟩ | ⟨-, c, rfl, hc⟩⟩
  · exact absurd hbad (by unfold badG; omega)
  have hg : (⟨1, 2, 2, 8⟩ : Geo).Ok := ⟨by decide, by decide, by decide, by decide, by decide, by decide, by decide, by decide⟩
  have HB1 := hide hb1
  have HC : Hid (ChipAt (w1.alloc (.cells (madeCells #[.int .u8 0] 8) 5)) (fun j => j < w.heap.size ∨ j = w1.heap.size) c ⟨1, 2, 2, 8⟩ (newS ⟨1, 2, 2, 8⟩)) := hide ((hc.more (O' := fun j => j < w.heap.size ∨ j = w1.heap.size) (fun j hj => hj.imp id (fun h => by omega))).below ((Below.refl _ _).alloc (Nat.le_refl _) _))
  have mk : ∀ w, (Instr.makeSlice 33 (.int .i64 8) (.int .i64 8)).run Tryd.prog w = .ok (.slice (some ⟨w.heap.size, 0, none⟩) 8 8) (w.alloc (.cells (madeCells #[.int .u8 0] 8) 5)) := fun w => make_byt 8 (by omega) w
  have HRD : Hid (Rd (w1.alloc (.cells (madeCells #[.int .u8 0] 8) 5)) (some ⟨w1.heap.size, 0, none⟩) (u8v (List.replicate 8 0))) := hide (Rd.new w1 _ _ _ _ _ rfl (by rw [toList_madeCells_one]; simp [u8v]))
  have HP := hide (progA HC.out hg 0 0 1 (some ⟨w1.heap.size, 0, none⟩) 8 8 (List.replicate 8 0) 0 rfl (by omega) HRD.out (fun _ ad e => .inr (by injection e with e; rw [← e])) (by omega))
  have HEV : Hid (progE ⟨1, 2, 2, 8⟩ (newS ⟨1, 2, 2, 8⟩) 0 0 1 8 0 = 5) := hide (by decide)
  have HB2 : Hid (Below w.heap.size w (w1.alloc (.cells (madeCells #[.int .u8 0] 8) 5))) := hide (HB1.out.trans ((Below.refl _ _).alloc HB1.out.size _))
  rw [HEV.out] at HP
  clear hb1 hc HRD
  unfold ptr
  go_wp2_with fail
  refine HP.out.mono ?_
  rintro e w2 ⟨rfl, hc2, hk2⟩
  have HB3 : Hid (Below w.heap.size w w2) := hide (HB2.out.trans (hk2.below (fun j hj => .inl hj) HB2.out.size))
  clear hc2 hk2 HP
  have HER := hide (error_some 5 5 w2 (HE.out.below HB3.out (Nat.le_refl _)) true (by decide))
  rw [errV_ne (by decide)]
  unfold errR
  go_wp2_with fail
  refine HER.out.mono ?_
  rintro e w3 ⟨rfl, hb4⟩
  have HB4 := hide (HB3.out.trans (hb4.mono HB3.out.size))
  clear hb4
  go_wp2_with fail
  go_ret
  exact ⟨rfl, HB4.out⟩
end Go.Proofs.YtbldjiofchaigaaDoor.ChipW
