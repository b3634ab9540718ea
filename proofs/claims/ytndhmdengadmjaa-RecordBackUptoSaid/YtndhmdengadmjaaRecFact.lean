/- The walk of granarylaw1.recordFact. -/
import Derived.Test.YtndhmdengadmjaaRecJoins
set_option linter.unusedVariables false
namespace Go.Proofs.Ytndhmdengadmjaa.RecW
open Go.RowKit Rec BufW I64

def fls : List (List E3) := [[(1, 2, 300)]]
theorem n1 : num 1 = [1] := by unfold num; simp
theorem n2 : num 2 = [2] := by unfold num; simp
theorem n300 : num 300 = [172, 2] := by unfold num; simp [n2]
theorem fls_flat : flat (natL fls) = [1, 1, 2, 172, 2] ++ sum (body [(1, 2, 300)]) := by
  simp [fls, natL, natE, toN, flat, bat, body, Rec.ents, ent, n1, n2, n300]
theorem fls_len : (flat (natL fls)).length = 9 := by rw [fls_flat, List.length_append, sum_len]; rfl
theorem fls_ok : ∀ es ∈ fls, faultOf es = 0 := by
  intro es h
  have : es = [(1, 2, 300)] := by simpa [fls] using h
  subst this
  unfold faultOf
  rw [if_neg (by decide), if_pos (by intro e he; have : e = (1, 2, 300) := by simpa using he
                                     subst this; unfold okE3 inN; decide)]
theorem fls_small (i : Nat) : (flat (natL (fls.take i))).length ≤ 100000000 := by
  cases i with
  | zero => simp [natL, flat]
  | succ i => rw [show fls.take (i + 1) = fls by simp [fls], fls_len]; decide

set_option maxHeartbeats 2000000 in
theorem fact_says : FactSays := by
  intro w
  go_enter Try.func18, Try.ntmps18
  obtain ⟨W1, hW1⟩ : ∃ W1, W1 = w.alloc (.cells #[.int .i64 1, .int .i64 2, .int .i64 300] 76) := ⟨_, rfl⟩
  obtain ⟨W2, hW2⟩ : ∃ W2, W2 = W1.alloc (.cells #[.slice (some ⟨w.heap.size, 0, none⟩) 1 1] 70) := ⟨_, rfl⟩
  have hs1 : W1.heap.size = w.heap.size + 1 := by rw [hW1]; simp
  have K1 := (Bk.new w 76 #[.int .i64 1, .int .i64 2, .int .i64 300]).alloc (.cells #[.slice (some ⟨w.heap.size, 0, none⟩) 1 1] 70)
  have K2 := Bk.new W1 70 #[.slice (some ⟨w.heap.size, 0, none⟩) 1 1]
  rw [← hW1, ← hW2] at K1
  rw [← hW2] at K2
  have hRB : RdB W2 (.slice (some ⟨w.heap.size + 1, 0, none⟩) 1 1) fls := by
    refine ⟨_, _, rfl, fun i es hi => ?_⟩
    cases i with
    | succ i => simp [fls] at hi
    | zero =>
      have : es = [(1, 2, 300)] := by simpa [fls] using hi.symm
      subst this
      refine ⟨_, _, _, rfl, by rw [← hs1]; exact K2.at_ (i := 0) rfl, ⟨_, _, rfl, fun j e hj => ?_⟩⟩
      cases j with
      | succ j => simp at hj
      | zero =>
        have : e = (1, 2, 300) := by simpa using hj.symm
        subst this
        exact ⟨_, _, rfl, K1.at_ (i := 0) rfl, K1.at_ (i := 1) rfl, K1.at_ (i := 2) rfl⟩
  have HW := hide (write_any _ fls W2 hRB (by decide) fls_small)
  have HB : Hid (Below w.heap.size w W2) := hide (by rw [hW2, hW1]; exact ((Below.refl _ _).alloc (Nat.le_refl _) _).alloc (by simp) _)
  have HE := hide hW1
  have HE2 := hide hW2
  clear hRB K1 K2 hs1 hW1 hW2
  go_wp2_with fail
  rw [← HE.out, ← HE2.out]
  refine HW.out.mono ?_
  rintro e w3 ⟨hb3, ⟨hok, A, c, rfl, hown⟩ | ⟨pre, es, h1, h2, h3, -⟩⟩
  · have HB3 := hide (HB.out.trans (hb3.mono HB.out.size))
    have hr := Rd.of_own hown
    have hat : ∀ i (b : UInt8), ([1, 1, 2, 172, 2] : List UInt8)[i]? = some b → (u8v (flat (natL fls)))[i]? = some (Value.int .u8 (b.toNat : Int)) := fun i b hb => by
      have hi := (List.getElem?_eq_some_iff.1 hb).1
      rw [fls_flat, u8v, List.getElem?_map, List.getElem?_append_left hi, hb]; rfl
    have a0 := hat 0 1 rfl
    rcases hr with hn | ⟨b, off, rfl, hc⟩
    · rw [hn] at a0; simp at a0
    have y0 : w3.cell? ⟨b, off, none⟩ = some (.int .u8 1) := hc 0 _ a0
    have y3 : w3.cell? ⟨b, off + 3, none⟩ = some (.int .u8 172) := hc 3 _ (hat 3 172 rfl)
    have y4 : w3.cell? ⟨b, off + 4, none⟩ = some (.int .u8 2) := hc 4 _ (hat 4 2 rfl)
    rw [fls_len]
    clear hb3 hok hown hc hat a0
    go_wp2_with fail
    go_ret
    exact ⟨rfl, HB3.out⟩
  · exact absurd (fls_ok es (write_bad h2)) h3
end Go.Proofs.Ytndhmdengadmjaa.RecW
