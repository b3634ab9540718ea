/- The pieces of ScanCrews, each alone. -/
import Derived.Test.YtlaipigilikmbaaMa14
import Derived.Test.YtlaipigilikmbaaMa13
import Derived.Test.YtlaipigilikmbaaMa30
import Derived.Test.YtlaipigilikmbaaMa7
set_option linter.unusedVariables false
set_option linter.unusedSimpArgs false
namespace Go.Proofs.Ytlaipigilikmbaa.CrW
open Go Go.RowKit Go.Proofs Go.Proofs.Ytlaipigilikmbaa Go.Proofs.Ytlaipigilikmbaa.LwW Go.Proofs.Ytlaipigilikmbaa.Cl PutW CrcW Fram Crc PackW FrameW GetW ApartW OpenW
noncomputable def kE : Nat → Code
  | 0 => (Try.f6.body).getD .skip
  | i + 1 => Co.sR (kE i)
noncomputable def kC (i : Nat) : Code := Co.sL (kE i)
theorem kE0 : kE 0 = .seq (kC 0) (kE 1) := by kernel_rfl
theorem kE1 : kE 1 = .seq (kC 1) (kE 2) := by kernel_rfl
theorem kE2 : kE 2 = .seq (kC 2) (kE 3) := by kernel_rfl
theorem kE3 : kE 3 = .seq (kC 3) (kE 4) := by kernel_rfl
theorem kE4 : kE 4 = .seq (kC 4) (kE 5) := by kernel_rfl
theorem kE5 : kE 5 = .seq (kC 5) (kE 6) := by kernel_rfl
theorem kE6 : kE 6 = .seq (kC 6) (kE 7) := by kernel_rfl
theorem kE7 : kE 7 = .seq (kC 7) (kE 8) := by kernel_rfl
theorem kE8 : kE 8 = .seq (kC 8) (kE 9) := by kernel_rfl
theorem kE9 : kE 9 = .seq (kC 9) (kE 10) := by kernel_rfl
theorem kE10 : kE 10 = .seq (kC 10) (kE 11) := by kernel_rfl
theorem kE11 : kE 11 = .seq (kC 11) (kE 12) := by kernel_rfl
theorem kE12 : kE 12 = .seq (kC 12) (kE 13) := by kernel_rfl
def R1 (w : World) (u : Nat → Value) (t : Array Value) (h : Array Obj) : Prop := Kp 108 [0, 1, 2] u t ∧ t[8]? = some .nilIface ∧ HB w.heap h ∧ ∃ D c, t[7]? = some (.slice D 24 c) ∧ (hW h).ownsRow w.heap.size 5 1 (.slice D 24 c) 24 (u8v (pack 24 1 3 1 []))
set_option maxRecDepth 20000 in
set_option maxHeartbeats 2000000 in
theorem p1 (w : World) (u : Nat → Value) : (kC 1).wp Try.prog (fun e a w' => e = .normal ∧ R1 w u a.tmps w'.heap) ⟨#[u 0, u 1, u 2, u 3, u 4, u 5, u 6, u 7, u 8, u 9, u 10, u 11, u 12, u 13, u 14, u 15, u 16, u 17, u 18, u 19, u 20, u 21, u 22, u 23, u 24, u 25, u 26, u 27, u 28, u 29, u 30, u 31, u 32, u 33, u 34, u 35, u 36, u 37, u 38, u 39, u 40, u 41, u 42, u 43, u 44, u 45, u 46, u 47, u 48, u 49, u 50, u 51, u 52, u 53, u 54, u 55, u 56, u 57, u 58, u 59, u 60, u 61, u 62, u 63, u 64, u 65, u 66, u 67, u 68, u 69, u 70, u 71, u 72, u 73, u 74, u 75, u 76, u 77, u 78, u 79, u 80, u 81, u 82, u 83, u 84, u 85, u 86, u 87, u 88, u 89, u 90, u 91, u 92, u 93, u 94, u 95, u 96, u 97, u 98, u 99, u 100, u 101, u 102, u 103, u 104, u 105, u 106, u 107], []⟩ w := by
  rw [show kC 1 = Co.sL (Co.sR ((Try.f6.body).getD .skip)) by kernel_rfl]
  simp only [Try.f6, Co.sL, Co.sR, Option.getD]
  go_wp2_with fail
  refine (pack_ok 24 1 3 1 none [] 0 0 w (by omega) (by omega) (by omega) (by omega) (by omega) (by omega) (by omega) (by omega) rfl (by omega) (Rd.nil _ _)).mono ?_
  rintro e w2 ⟨v, rfl, ho, hb⟩
  obtain ⟨D, c, rfl, -⟩ := own_form ho
  have HO := hide ho
  have HB := hide hb
  clear ho hb
  go_wp2_with fail
  exact ⟨⟨rfl, by intro s hs; simp only [List.mem_cons, List.not_mem_nil, or_false] at hs; rcases hs with rfl | rfl | rfl <;> rfl⟩, rfl, .of HB.out, D, c, rfl, own_hW HO.out⟩
theorem p1' (w : World) (t : Array Value) (ht : t.size = 108)  : (kC 1).wp Try.prog (fun e a w' => e = .normal ∧ R1 w (fun i => t.getD i undef) a.tmps w'.heap) ⟨t, []⟩ w := by
  have e := lit108 t ht
  have h := p1 w fun i => t.getD i undef
  dsimp only at h
  rw [← e] at h
  exact h
set_option maxRecDepth 20000 in
set_option maxHeartbeats 2000000 in
theorem p3 (w : World) (g cap : Nat) (hc : w.cell? ⟨g, 0, none⟩ = some (.int .i64 3)) (u : Nat → Value) : (kC 3).wp Try.prog (fun e a w' => e = .normal ∧ RK 108 [0, 1, 2] w u a.tmps w'.heap) ⟨#[u 0, u 1, u 2, u 3, u 4, u 5, u 6, u 7, .nilIface, .slice (some ⟨g, 0, none⟩) 1 cap, .nilIface, u 11, u 12, u 13, u 14, u 15, u 16, u 17, u 18, u 19, u 20, u 21, u 22, u 23, u 24, u 25, u 26, u 27, u 28, u 29, u 30, u 31, u 32, u 33, u 34, u 35, u 36, u 37, u 38, u 39, u 40, u 41, u 42, u 43, u 44, u 45, u 46, u 47, u 48, u 49, u 50, u 51, u 52, u 53, u 54, u 55, u 56, u 57, u 58, u 59, u 60, u 61, u 62, u 63, u 64, u 65, u 66, u 67, u 68, u 69, u 70, u 71, u 72, u 73, u 74, u 75, u 76, u 77, u 78, u 79, u 80, u 81, u 82, u 83, u 84, u 85, u 86, u 87, u 88, u 89, u 90, u 91, u 92, u 93, u 94, u 95, u 96, u 97, u 98, u 99, u 100, u 101, u 102, u 103, u 104, u 105, u 106, u 107], []⟩ w := by
  rw [show kC 3 = Co.sL (Co.sR (Co.sR (Co.sR ((Try.f6.body).getD .skip)))) by kernel_rfl]
  simp only [Try.f6, Co.sL, Co.sR, Option.getD]
  go_wp2_with fail
  exact ⟨⟨rfl, by intro s hs; simp only [List.mem_cons, List.not_mem_nil, or_false] at hs; rcases hs with rfl | rfl | rfl <;> rfl⟩, rfl⟩
theorem p3' (w : World) (g cap : Nat) (hc : w.cell? ⟨g, 0, none⟩ = some (.int .i64 3)) (t : Array Value) (ht : t.size = 108) (q8 : t[8]? = some (.nilIface)) (q9 : t[9]? = some (.slice (some ⟨g, 0, none⟩) 1 cap)) (q10 : t[10]? = some (.nilIface)) : (kC 3).wp Try.prog (fun e a w' => e = .normal ∧ RK 108 [0, 1, 2] w (fun i => t.getD i undef) a.tmps w'.heap) ⟨t, []⟩ w := by
  have e := lit108 t ht
  rw [getD_of q8, getD_of q9, getD_of q10] at e
  have h := p3 w g cap hc fun i => t.getD i undef
  dsimp only at h
  rw [← e] at h
  exact h
set_option maxRecDepth 20000 in
set_option maxHeartbeats 2000000 in
theorem p5 (w : World) (x : Int) (h1 : -9223372036854775808 ≤ x) (h2 : x ≤ 9223372036854775807) (u : Nat → Value) : (kC 4).wp Try.prog (fun e a w' => e = .normal ∧ RV 108 [0, 2] 11 (.int .i64 (1 + ((pickN x 8 : Nat) : Int))) w u a.tmps w'.heap) ⟨#[u 0, .int .i64 x, u 2, u 3, u 4, u 5, u 6, u 7, u 8, u 9, u 10, u 11, u 12, u 13, u 14, u 15, u 16, u 17, u 18, u 19, u 20, u 21, u 22, u 23, u 24, u 25, u 26, u 27, u 28, u 29, u 30, u 31, u 32, u 33, u 34, u 35, u 36, u 37, u 38, u 39, u 40, u 41, u 42, u 43, u 44, u 45, u 46, u 47, u 48, u 49, u 50, u 51, u 52, u 53, u 54, u 55, u 56, u 57, u 58, u 59, u 60, u 61, u 62, u 63, u 64, u 65, u 66, u 67, u 68, u 69, u 70, u 71, u 72, u 73, u 74, u 75, u 76, u 77, u 78, u 79, u 80, u 81, u 82, u 83, u 84, u 85, u 86, u 87, u 88, u 89, u 90, u 91, u 92, u 93, u 94, u 95, u 96, u 97, u 98, u 99, u 100, u 101, u 102, u 103, u 104, u 105, u 106, u 107], []⟩ w := by
  rw [show kC 4 = Co.sL (Co.sR (Co.sR (Co.sR (Co.sR ((Try.f6.body).getD .skip))))) by kernel_rfl]
  simp only [Try.f6, Co.sL, Co.sR, Option.getD]
  have hp := pickN_lt x 8 (by omega)
  go_wp2_with fail
  refine (pick_any x 8 8 rfl (by omega) (by omega) h1 h2 w).mono ?_
  rintro e w2 ⟨rfl, rfl⟩
  go_wp2_with fail
  exact ⟨⟨rfl, by intro s hs; simp only [List.mem_cons, List.not_mem_nil, or_false] at hs; rcases hs with rfl | rfl <;> rfl⟩, rfl, rfl⟩
theorem p5' (w : World) (x : Int) (h1 : -9223372036854775808 ≤ x) (h2 : x ≤ 9223372036854775807) (t : Array Value) (ht : t.size = 108) (q1 : t[1]? = some (.int .i64 x)) : (kC 4).wp Try.prog (fun e a w' => e = .normal ∧ RV 108 [0, 2] 11 (.int .i64 (1 + ((pickN x 8 : Nat) : Int))) w (fun i => t.getD i undef) a.tmps w'.heap) ⟨t, []⟩ w := by
  have e := lit108 t ht
  rw [getD_of q1] at e
  have h := p5 w x h1 h2 fun i => t.getD i undef
  dsimp only at h
  rw [← e] at h
  exact h
set_option maxRecDepth 20000 in
set_option maxHeartbeats 2000000 in
theorem p6 (w : World) (x : Int) (h1 : -9223372036854775808 ≤ x) (h2 : x ≤ 9223372036854775807) (u : Nat → Value) : (kC 5).wp Try.prog (fun e a w' => e = .normal ∧ RV 108 [0, 11] 12 (.int .i64 (1 + ((pickN x 8 : Nat) : Int))) w u a.tmps w'.heap) ⟨#[u 0, u 1, .int .i64 x, u 3, u 4, u 5, u 6, u 7, u 8, u 9, u 10, u 11, u 12, u 13, u 14, u 15, u 16, u 17, u 18, u 19, u 20, u 21, u 22, u 23, u 24, u 25, u 26, u 27, u 28, u 29, u 30, u 31, u 32, u 33, u 34, u 35, u 36, u 37, u 38, u 39, u 40, u 41, u 42, u 43, u 44, u 45, u 46, u 47, u 48, u 49, u 50, u 51, u 52, u 53, u 54, u 55, u 56, u 57, u 58, u 59, u 60, u 61, u 62, u 63, u 64, u 65, u 66, u 67, u 68, u 69, u 70, u 71, u 72, u 73, u 74, u 75, u 76, u 77, u 78, u 79, u 80, u 81, u 82, u 83, u 84, u 85, u 86, u 87, u 88, u 89, u 90, u 91, u 92, u 93, u 94, u 95, u 96, u 97, u 98, u 99, u 100, u 101, u 102, u 103, u 104, u 105, u 106, u 107], []⟩ w := by
  rw [show kC 5 = Co.sL (Co.sR (Co.sR (Co.sR (Co.sR (Co.sR ((Try.f6.body).getD .skip)))))) by kernel_rfl]
  simp only [Try.f6, Co.sL, Co.sR, Option.getD]
  have hp := pickN_lt x 8 (by omega)
  go_wp2_with fail
  refine (pick_any x 8 8 rfl (by omega) (by omega) h1 h2 w).mono ?_
  rintro e w2 ⟨rfl, rfl⟩
  go_wp2_with fail
  exact ⟨⟨rfl, by intro s hs; simp only [List.mem_cons, List.not_mem_nil, or_false] at hs; rcases hs with rfl | rfl <;> rfl⟩, rfl, rfl⟩
theorem p6' (w : World) (x : Int) (h1 : -9223372036854775808 ≤ x) (h2 : x ≤ 9223372036854775807) (t : Array Value) (ht : t.size = 108) (q2 : t[2]? = some (.int .i64 x)) : (kC 5).wp Try.prog (fun e a w' => e = .normal ∧ RV 108 [0, 11] 12 (.int .i64 (1 + ((pickN x 8 : Nat) : Int))) w (fun i => t.getD i undef) a.tmps w'.heap) ⟨t, []⟩ w := by
  have e := lit108 t ht
  rw [getD_of q2] at e
  have h := p6 w x h1 h2 fun i => t.getD i undef
  dsimp only at h
  rw [← e] at h
  exact h
set_option maxRecDepth 20000 in
set_option maxHeartbeats 2000000 in
theorem p9 (w : World) (A B : Option Addr) (n c d : Nat) (a0 p s q : Nat → Int) (hA : RdF w A n a0 p s q) (hB : RdF w B n a0 p s q) (hn : n ≤ 9223372036854775807) (u : Nat → Value) : (kC 8).wp Try.prog (fun e a w' => e = .normal ∧ RV 108 [0, 8, 10, 11, 12] 15 (.bool true) w u a.tmps w'.heap) ⟨#[u 0, u 1, u 2, u 3, u 4, u 5, u 6, u 7, u 8, u 9, u 10, u 11, u 12, .slice A n c, .slice B n d, u 15, u 16, u 17, u 18, u 19, u 20, u 21, u 22, u 23, u 24, u 25, u 26, u 27, u 28, u 29, u 30, u 31, u 32, u 33, u 34, u 35, u 36, u 37, u 38, u 39, u 40, u 41, u 42, u 43, u 44, u 45, u 46, u 47, u 48, u 49, u 50, u 51, u 52, u 53, u 54, u 55, u 56, u 57, u 58, u 59, u 60, u 61, u 62, u 63, u 64, u 65, u 66, u 67, u 68, u 69, u 70, u 71, u 72, u 73, u 74, u 75, u 76, u 77, u 78, u 79, u 80, u 81, u 82, u 83, u 84, u 85, u 86, u 87, u 88, u 89, u 90, u 91, u 92, u 93, u 94, u 95, u 96, u 97, u 98, u 99, u 100, u 101, u 102, u 103, u 104, u 105, u 106, u 107], []⟩ w := by
  rw [show kC 8 = Co.sL (Co.sR (Co.sR (Co.sR (Co.sR (Co.sR (Co.sR (Co.sR (Co.sR ((Try.f6.body).getD .skip))))))))) by kernel_rfl]
  simp only [Try.f6, Co.sL, Co.sR, Option.getD]
  go_wp2_with fail
  refine (founds_same A B a0 p s q n c d w hA hB hn).mono ?_
  rintro e w2 ⟨rfl, k, rfl⟩
  go_wp2_with fail
  exact ⟨⟨rfl, by intro s hs; simp only [List.mem_cons, List.not_mem_nil, or_false] at hs; rcases hs with rfl | rfl | rfl | rfl | rfl <;> rfl⟩, rfl, rfl⟩
theorem p9' (w : World) (A B : Option Addr) (n c d : Nat) (a0 p s q : Nat → Int) (hA : RdF w A n a0 p s q) (hB : RdF w B n a0 p s q) (hn : n ≤ 9223372036854775807) (t : Array Value) (ht : t.size = 108) (q13 : t[13]? = some (.slice A n c)) (q14 : t[14]? = some (.slice B n d)) : (kC 8).wp Try.prog (fun e a w' => e = .normal ∧ RV 108 [0, 8, 10, 11, 12] 15 (.bool true) w (fun i => t.getD i undef) a.tmps w'.heap) ⟨t, []⟩ w := by
  have e := lit108 t ht
  rw [getD_of q13, getD_of q14] at e
  have h := p9 w A B n c d a0 p s q hA hB hn fun i => t.getD i undef
  dsimp only at h
  rw [← e] at h
  exact h
set_option maxRecDepth 20000 in
set_option maxHeartbeats 2000000 in
theorem p10 (w : World) (u : Nat → Value) : (kC 9).wp Try.prog (fun e a w' => e = .normal ∧ RK 108 [0, 11, 12, 15] w u a.tmps w'.heap) ⟨#[u 0, u 1, u 2, u 3, u 4, u 5, u 6, u 7, .nilIface, u 9, .nilIface, u 11, u 12, u 13, u 14, u 15, u 16, u 17, u 18, u 19, u 20, u 21, u 22, u 23, u 24, u 25, u 26, u 27, u 28, u 29, u 30, u 31, u 32, u 33, u 34, u 35, u 36, u 37, u 38, u 39, u 40, u 41, u 42, u 43, u 44, u 45, u 46, u 47, u 48, u 49, u 50, u 51, u 52, u 53, u 54, u 55, u 56, u 57, u 58, u 59, u 60, u 61, u 62, u 63, u 64, u 65, u 66, u 67, u 68, u 69, u 70, u 71, u 72, u 73, u 74, u 75, u 76, u 77, u 78, u 79, u 80, u 81, u 82, u 83, u 84, u 85, u 86, u 87, u 88, u 89, u 90, u 91, u 92, u 93, u 94, u 95, u 96, u 97, u 98, u 99, u 100, u 101, u 102, u 103, u 104, u 105, u 106, u 107], []⟩ w := by
  rw [show kC 9 = Co.sL (Co.sR (Co.sR (Co.sR (Co.sR (Co.sR (Co.sR (Co.sR (Co.sR (Co.sR ((Try.f6.body).getD .skip)))))))))) by kernel_rfl]
  simp only [Try.f6, Co.sL, Co.sR, Option.getD]
  go_wp2_with fail
  exact ⟨⟨rfl, by intro s hs; simp only [List.mem_cons, List.not_mem_nil, or_false] at hs; rcases hs with rfl | rfl | rfl | rfl <;> rfl⟩, rfl⟩
theorem p10' (w : World) (t : Array Value) (ht : t.size = 108) (q8 : t[8]? = some (.nilIface)) (q10 : t[10]? = some (.nilIface)) : (kC 9).wp Try.prog (fun e a w' => e = .normal ∧ RK 108 [0, 11, 12, 15] w (fun i => t.getD i undef) a.tmps w'.heap) ⟨t, []⟩ w := by
  have e := lit108 t ht
  rw [getD_of q8, getD_of q10] at e
  have h := p10 w fun i => t.getD i undef
  dsimp only at h
  rw [← e] at h
  exact h
set_option maxRecDepth 20000 in
set_option maxHeartbeats 2000000 in
theorem p10f (w : World) (A : Option Addr) (L cp : Nat) (t1 t2 : TypeId) (v1 v2 : Value) (hL : 4096 < L) (u : Nat → Value) : (kC 9).wp Try.prog (fun e a w' => e = .ret ∧ RX 108 6 (.bool true) a.tmps w'.heap) ⟨#[.slice A L cp, u 1, u 2, u 3, u 4, u 5, u 6, u 7, .iface t1 v1, u 9, .iface t2 v2, u 11, u 12, u 13, u 14, .bool true, u 16, u 17, u 18, u 19, u 20, u 21, u 22, u 23, u 24, u 25, u 26, u 27, u 28, u 29, u 30, u 31, u 32, u 33, u 34, u 35, u 36, u 37, u 38, u 39, u 40, u 41, u 42, u 43, u 44, u 45, u 46, u 47, u 48, u 49, u 50, u 51, u 52, u 53, u 54, u 55, u 56, u 57, u 58, u 59, u 60, u 61, u 62, u 63, u 64, u 65, u 66, u 67, u 68, u 69, u 70, u 71, u 72, u 73, u 74, u 75, u 76, u 77, u 78, u 79, u 80, u 81, u 82, u 83, u 84, u 85, u 86, u 87, u 88, u 89, u 90, u 91, u 92, u 93, u 94, u 95, u 96, u 97, u 98, u 99, u 100, u 101, u 102, u 103, u 104, u 105, u 106, u 107], []⟩ w := by
  rw [show kC 9 = Co.sL (Co.sR (Co.sR (Co.sR (Co.sR (Co.sR (Co.sR (Co.sR (Co.sR (Co.sR ((Try.f6.body).getD .skip)))))))))) by kernel_rfl]
  simp only [Try.f6, Co.sL, Co.sR, Option.getD]
  have e1 : decide ((4096 : Int) < (L : Int)) = true := by simp; omega
  go_wp2_with fail
  exact ⟨rfl, rfl⟩
theorem p10f' (w : World) (A : Option Addr) (L cp : Nat) (t1 t2 : TypeId) (v1 v2 : Value) (hL : 4096 < L) (t : Array Value) (ht : t.size = 108) (q0 : t[0]? = some (.slice A L cp)) (q8 : t[8]? = some (.iface t1 v1)) (q10 : t[10]? = some (.iface t2 v2)) (q15 : t[15]? = some (.bool true)) : (kC 9).wp Try.prog (fun e a w' => e = .ret ∧ RX 108 6 (.bool true) a.tmps w'.heap) ⟨t, []⟩ w := by
  have e := lit108 t ht
  rw [getD_of q0, getD_of q8, getD_of q10, getD_of q15] at e
  have h := p10f w A L cp t1 t2 v1 v2 hL fun i => t.getD i undef
  dsimp only at h
  rw [← e] at h
  exact h
set_option maxRecDepth 20000 in
set_option maxHeartbeats 2000000 in
theorem p14 (w : World) (A B : Option Addr) (l : List Int) (n c d : Nat) (hl : n = l.length) (hA : Rd w A (i64v l)) (hB : Rd w B (i64v l)) (hn : n ≤ 9223372036854775807) (u : Nat → Value) : (kC 12).wp Try.prog (fun e a w' => e = .normal ∧ RV 108 [8, 10, 15] 18 (.bool true) w u a.tmps w'.heap) ⟨#[u 0, u 1, u 2, u 3, u 4, u 5, u 6, u 7, u 8, u 9, u 10, u 11, u 12, u 13, u 14, u 15, .slice A n c, .slice B n d, u 18, u 19, u 20, u 21, u 22, u 23, u 24, u 25, u 26, u 27, u 28, u 29, u 30, u 31, u 32, u 33, u 34, u 35, u 36, u 37, u 38, u 39, u 40, u 41, u 42, u 43, u 44, u 45, u 46, u 47, u 48, u 49, u 50, u 51, u 52, u 53, u 54, u 55, u 56, u 57, u 58, u 59, u 60, u 61, u 62, u 63, u 64, u 65, u 66, u 67, u 68, u 69, u 70, u 71, u 72, u 73, u 74, u 75, u 76, u 77, u 78, u 79, u 80, u 81, u 82, u 83, u 84, u 85, u 86, u 87, u 88, u 89, u 90, u 91, u 92, u 93, u 94, u 95, u 96, u 97, u 98, u 99, u 100, u 101, u 102, u 103, u 104, u 105, u 106, u 107], []⟩ w := by
  rw [show kC 12 = Co.sL (Co.sR (Co.sR (Co.sR (Co.sR (Co.sR (Co.sR (Co.sR (Co.sR (Co.sR (Co.sR (Co.sR (Co.sR ((Try.f6.body).getD .skip))))))))))))) by kernel_rfl]
  simp only [Try.f6, Co.sL, Co.sR, Option.getD]
  have HL := hide hl
  have HA := hide hA
  have HB := hide hB
  clear hl hA hB
  go_wp2_with fail
  refine (ints_same A B l n c d w HL.out HA.out HB.out hn).mono ?_
  rintro e w2 ⟨rfl, k, rfl⟩
  go_wp2_with fail
  exact ⟨⟨rfl, by intro s hs; simp only [List.mem_cons, List.not_mem_nil, or_false] at hs; rcases hs with rfl | rfl | rfl <;> rfl⟩, rfl, rfl⟩
theorem p14' (w : World) (A B : Option Addr) (l : List Int) (n c d : Nat) (hl : n = l.length) (hA : Rd w A (i64v l)) (hB : Rd w B (i64v l)) (hn : n ≤ 9223372036854775807) (t : Array Value) (ht : t.size = 108) (q16 : t[16]? = some (.slice A n c)) (q17 : t[17]? = some (.slice B n d)) : (kC 12).wp Try.prog (fun e a w' => e = .normal ∧ RV 108 [8, 10, 15] 18 (.bool true) w (fun i => t.getD i undef) a.tmps w'.heap) ⟨t, []⟩ w := by
  have e := lit108 t ht
  rw [getD_of q16, getD_of q17] at e
  have h := p14 w A B l n c d hl hA hB hn fun i => t.getD i undef
  dsimp only at h
  rw [← e] at h
  exact h
set_option maxRecDepth 20000 in
set_option maxHeartbeats 2000000 in
theorem p15 (w : World) (u : Nat → Value) : (kE 13).wp Try.prog (fun e a w' => e = .ret ∧ RX 108 6 (.bool true) a.tmps w'.heap) ⟨#[u 0, u 1, u 2, u 3, u 4, u 5, u 6, u 7, .nilIface, u 9, .nilIface, u 11, u 12, u 13, u 14, .bool true, u 16, u 17, .bool true, u 19, u 20, u 21, u 22, u 23, u 24, u 25, u 26, u 27, u 28, u 29, u 30, u 31, u 32, u 33, u 34, u 35, u 36, u 37, u 38, u 39, u 40, u 41, u 42, u 43, u 44, u 45, u 46, u 47, u 48, u 49, u 50, u 51, u 52, u 53, u 54, u 55, u 56, u 57, u 58, u 59, u 60, u 61, u 62, u 63, u 64, u 65, u 66, u 67, u 68, u 69, u 70, u 71, u 72, u 73, u 74, u 75, u 76, u 77, u 78, u 79, u 80, u 81, u 82, u 83, u 84, u 85, u 86, u 87, u 88, u 89, u 90, u 91, u 92, u 93, u 94, u 95, u 96, u 97, u 98, u 99, u 100, u 101, u 102, u 103, u 104, u 105, u 106, u 107], []⟩ w := by
  rw [show kE 13 = (Co.sR (Co.sR (Co.sR (Co.sR (Co.sR (Co.sR (Co.sR (Co.sR (Co.sR (Co.sR (Co.sR (Co.sR (Co.sR ((Try.f6.body).getD .skip)))))))))))))) by kernel_rfl]
  simp only [Try.f6, Co.sL, Co.sR, Option.getD]
  go_wp2_with fail
  exact ⟨rfl, rfl⟩
theorem p15' (w : World) (t : Array Value) (ht : t.size = 108) (q8 : t[8]? = some (.nilIface)) (q10 : t[10]? = some (.nilIface)) (q15 : t[15]? = some (.bool true)) (q18 : t[18]? = some (.bool true)) : (kE 13).wp Try.prog (fun e a w' => e = .ret ∧ RX 108 6 (.bool true) a.tmps w'.heap) ⟨t, []⟩ w := by
  have e := lit108 t ht
  rw [getD_of q8, getD_of q10, getD_of q15, getD_of q18] at e
  have h := p15 w fun i => t.getD i undef
  dsimp only at h
  rw [← e] at h
  exact h
end Go.Proofs.Ytlaipigilikmbaa.CrW
