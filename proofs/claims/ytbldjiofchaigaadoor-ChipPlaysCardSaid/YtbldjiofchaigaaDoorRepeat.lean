/- bytes.Repeat of one byte. -/
import Derived.Test.YtbldjiofchaigaaDoorMul
import Derived.Test.YtbldjiofchaigaaDoorCopy
import Derived.Lib.MakeNoZero
import Derived.Laws.Externs
import Derived.Deep.RegionHeld3
import Derived.Deep.RegionLaw
set_option linter.unusedVariables false
namespace Go.Proofs.YtbldjiofchaigaaDoor.RepW
open Go.RowKit CopyW

/-- A buffer of n bytes of which the first j are x. -/
def Fill (w W : World) (g n j : Nat) (x : UInt8) : Prop := ∃ tl : List Value, n ≤ j + tl.length ∧ Bk W g 5 (u8v (List.replicate j x) ++ tl).toArray ∧ Below w.heap.size w W
theorem Fill.rd {w W : World} {g n j : Nat} {x : UInt8} (h : Fill w W g n j x) : Rd W (some ⟨g, 0, none⟩) (u8v (List.replicate j x)) := by
  obtain ⟨tl, -, h, -⟩ := h
  refine .inr ⟨g, 0, rfl, fun i u hu => ?_⟩
  rw [Nat.zero_add]
  refine h.at_ ?_
  have hi : i < (u8v (List.replicate j x)).length := (List.getElem?_eq_some_iff.1 hu).1
  rw [List.getElem?_toArray, List.getElem?_append_left hi]
  exact hu
theorem fill_splice (j m : Nat) (x : UInt8) (tl : List Value) : splice (u8v (List.replicate j x) ++ tl) j (u8v (List.replicate m x)) = u8v (List.replicate (j + m) x) ++ tl.drop m := by
  unfold splice
  have e1 : (u8v (List.replicate j x)).length = j := by rw [u8v_length, List.length_replicate]
  have e2 : (u8v (List.replicate m x)).length = m := by rw [u8v_length, List.length_replicate]
  rw [List.take_left' e1, e2, List.drop_append, e1, List.drop_eq_nil_of_le (by omega), List.nil_append, show j + m - j = m from by omega, ← List.append_assoc, ← u8v_append, List.replicate_append_replicate]
theorem min_int (x y : Int) (ts : Array TypeId) (t : TypeId) (w : World) : (Builtin.min_ ts t #[.int .i64 x, .int .i64 y]).run Tryd.prog w = .ok (.int .i64 (if y < x then y else x)) w := by
  simp [Builtin.min_, Builtin.min2]

set_option maxRecDepth 20000 in
set_option maxHeartbeats 2000000 in
theorem repeat_any (x : UInt8) (A : Option Addr) (c n : Nat) (w : World) (h8 : 8 ≤ n) (h256 : n ≤ 256) (hr : Rd w A (u8v [x])) :
    Calls Tryd.prog 32 #[.slice A 1 c, .int .i64 n] w fun e w' => e = .returned (.slice (some ⟨w.heap.size, 0, none⟩) n n) ∧ Fill w w' w.heap.size n n x := by
  have HM := hide (mul_any n w h256)
  have H := hide hr
  obtain ⟨cs, hrunM, hle, hmx⟩ := Lib.run_makeNoZero (P := Tryd.prog) w #[3] 33 5 Tryd.underlying33 n (by omega)
  have hcall : (callFunc 35 #[.int .i64 (n : Int)]).run Tryd.prog w = .ok (.value (.slice (some ⟨w.heap.size, 0, none⟩) n cs.size)) ((w.alloc (.cells cs 5)).drewN 2) := by
    rw [run_callFunc_extern Tryd.func35 (by kernel_rfl) (by kernel_rfl) (by kernel_rfl) (e := Extern.BytealgMakeNoZero.makeNoZero #[3] #[33]) (by kernel_rfl), hrunM]
    rfl
  have H0 : Hid (Fill w ((w.alloc (.cells cs 5)).drewN 2) w.heap.size n 0 x) := hide ⟨cs.toList, by rw [Array.length_toList]; omega, by
    have h := (Bk.new w 5 cs).drewN 2
    simpa [u8v] using h, below_drewN ((Below.refl _ _).alloc (Nat.le_refl _) _) 2⟩
  have i1 : (n : Int) ≤ (cs.size : Int) := by omega
  clear hr hrunM hmx
  go_enter Tryd.func32, Tryd.ntmps32
  go_wp2_with fail
  refine HM.out.mono ?_
  rintro e w' ⟨rfl, rfl⟩
  have HM1 : Hid ((u8v [x]).length = Nat.min 1 n) := hide (by rw [u8v_length, List.length_singleton]; exact (Nat.min_eq_left (by omega)).symm)
  have d1 : decide ((n : Int) > 9223372036854775807) = false := by simp; omega
  have d2 : decide ((n : Int) > 8192) = false := by simp; omega
  go_wp2_with (first
    | (refine wpList_copy_grown rfl (.tmp 58) (.tmp 59) rfl _ A n n 1 c rfl rfl w'.heap.size 0 cs.toList (by simpa using ((Bk.new w' 5 cs).drewN 2)) (u8v [x]) HM1.out (fun _ => ⟨rfl, (H.out.alloc _).drewN 2⟩) (by simp [u8v]; omega) (u8v_one [x]) ?_
       intro w2 HB2 hg2)
    | fail)
  have HF2 : Hid (Fill w' w2 w'.heap.size n 1 x) := hide ⟨cs.toList.drop 1, by rw [List.length_drop, Array.length_toList]; omega, by
    have h := fill_splice 0 1 x cs.toList
    rw [Nat.zero_add] at h
    rw [← h]
    exact HB2.out, ((below_drewN ((Below.refl _ _).alloc (Nat.le_refl _) _) 2).trans (below_of_grown hg2 (by simp) (fun k hk => by injection hk with hk; omega)))⟩
  clear HB2 hg2 hcall H0
  go_loopw [10] (fun i wr => ∃ j : Nat, 1 ≤ j ∧ j ≤ n ∧ i = .int .i64 j ∧ Hid (Fill w' wr w'.heap.size n j x)) (fun i _ => n - (intOf i).toNat)
  case atStart => exact ⟨1, by omega, by omega, rfl, HF2⟩
  case round =>
    obtain ⟨j, hj1, hjn, rfl, HF⟩ := hrel
    by_cases hlt : j < n
    · have hd1 : decide ((j : Int) < (n : Int)) = true := by simp; omega
      have hm : ∀ ts t w, (Builtin.min_ ts t #[.int .i64 (j : Int), .int .i64 (n : Int)]).run Tryd.prog w = .ok (.int .i64 j) w := fun ts t w => by
        rw [min_int, if_neg (by omega)]
      obtain ⟨m, hmm⟩ : ∃ m, m = min j (n - j) := ⟨_, rfl⟩
      have HMM := hide hmm
      have hm1 : 1 ≤ m := by omega
      have hmj : m ≤ j := by omega
      have hmn : j + m ≤ n := by omega
      clear hmm
      have k1 : (j : Int) ≤ (n : Int) := by omega
      have k2 : ¬ n = j := by omega
      go_wp2_with fail
      have HRD := hide (HF.out.rd)
      obtain ⟨tl, htl, hbk, hbl⟩ := HF.out
      have HBK := hide hbk
      have HBL := hide hbl
      have HCL : Hid ((u8v (List.replicate m x)).length = Nat.min j (n - j)) := hide (by rw [u8v_length, List.length_replicate]; exact HMM.out)
      have HLM : Hid ((u8v (List.replicate m x)).length = m) := hide (by rw [u8v_length, List.length_replicate])
      have HFT : Hid (j + (u8v (List.replicate m x)).length ≤ (u8v (List.replicate j x) ++ tl).length) := hide (by rw [List.length_append, u8v_length, u8v_length, List.length_replicate, List.length_replicate]; omega)
      have HRM : Hid (Rd wr (some ⟨w'.heap.size, 0, none⟩) (u8v (List.replicate m x))) := hide (by
        have h := HRD.out.take m
        have e : (u8v (List.replicate j x)).take m = u8v (List.replicate m x) := by
          rw [u8v, ← List.map_take, List.take_replicate, Nat.min_eq_left hmj]; rfl
        rw [e] at h
        exact h)
      clear hbk hbl HF
      go_region_held3 (fun w9 => True) (exact True.intro) (first
        | (refine step_copy_grown rfl (.tmp 70) (.tmp 73) rfl (some ⟨w'.heap.size, j, none⟩) (some ⟨w'.heap.size, 0, none⟩) (n - j) (n - j) j n rfl rfl w'.heap.size j (u8v (List.replicate j x) ++ tl) HBK.out.drew (u8v (List.replicate m x)) HCL.out (fun _ => ⟨rfl, HRM.out.drew⟩) HFT.out (u8v_one _) ?_
           intro w3 HB3 hg3
           rw [HLM.out]))
      have HF3 : Hid (Fill w' w3 w'.heap.size n (j + m) x) := hide ⟨tl.drop m, by rw [List.length_drop]; omega, by rw [← fill_splice]; exact HB3.out, HBL.out.drew.trans (below_of_grown hg3 (by have := HBL.out.size; simp; omega) (fun k hk => by injection hk with hk; omega))⟩
      clear HB3 hg3
      have hwr : IntKind.i64.wrap ((j : Int) + (m : Int)) = ((j + m : Nat) : Int) := by rw [IntKind.wrap_i64]; omega
      rw [hwr]
      clear hwr
      go_wp2_with fail
      go_roundw
      case rel => exact ⟨j + m, by omega, by omega, by go_num, HF3⟩
      case measure => simp [intOf]; omega
    · have hd1 : decide ((j : Int) < (n : Int)) = false := by simp; omega
      obtain rfl : j = n := by omega
      go_wp2_with fail
      go_ret
      exact ⟨rfl, HF.out⟩
end Go.Proofs.YtbldjiofchaigaaDoor.RepW
