/- The pieces of ScanBlanks, each alone. -/
import Derived.Test.YtlaipigilikmbaaMa14
import Derived.Test.YtlaipigilikmbaaMa13
import Derived.Test.YtlaipigilikmbaaMa30
import Derived.Test.YtlaipigilikmbaaMa7
set_option linter.unusedVariables false
set_option linter.unusedSimpArgs false
namespace Go.Proofs.Ytlaipigilikmbaa.BlW
open Go Go.RowKit Go.Proofs Go.Proofs.Ytlaipigilikmbaa Go.Proofs.Ytlaipigilikmbaa.LwW Go.Proofs.Ytlaipigilikmbaa.Cl PutW CrcW Fram Crc PackW FrameW GetW ApartW OpenW
noncomputable def kE : Nat → Code
  | 0 => (Try.f5.body).getD .skip
  | i + 1 => Co.sR (kE i)
noncomputable def kC (i : Nat) : Code := Co.sL (kE i)
theorem kE0 : kE 0 = .seq (kC 0) (kE 1) := by kernel_rfl
theorem kE1 : kE 1 = .seq (kC 1) (kE 2) := by kernel_rfl
theorem kE2 : kE 2 = .seq (kC 2) (kE 3) := by kernel_rfl
theorem kE3 : kE 3 = .seq (kC 3) (kE 4) := by kernel_rfl
theorem kE4 : kE 4 = .seq (kC 4) (kE 5) := by kernel_rfl
theorem kE5 : kE 5 = .seq (kC 5) (kE 6) := by kernel_rfl
theorem kE6 : kE 6 = .seq (kC 6) (kE 7) := by kernel_rfl
theorem kE7 : kE 7 = .seq (kC 7) (kE 8) := by kernel_rfl
theorem kE8 : kE 8 = .seq (kC 8) (kE 9) := by kernel_rfl
theorem kE9 : kE 9 = .seq (kC 9) (kE 10) := by kernel_rfl
theorem kE10 : kE 10 = .seq (kC 10) (kE 11) := by kernel_rfl
theorem kE11 : kE 11 = .seq (kC 11) (kE 12) := by kernel_rfl
theorem kE12 : kE 12 = .seq (kC 12) (kE 13) := by kernel_rfl
theorem kE13 : kE 13 = .seq (kC 13) (kE 14) := by kernel_rfl
theorem kE14 : kE 14 = .seq (kC 14) (kE 15) := by kernel_rfl
theorem kE15 : kE 15 = .seq (kC 15) (kE 16) := by kernel_rfl
def R5 (w : World) (u : Nat → Value) (t : Array Value) (h : Array Obj) : Prop := Kp 131 [0, 1, 2, 9, 10] u t ∧ t[11]? = some .nilIface ∧ HB w.heap h ∧ ∃ D c, t[12]? = some (.slice D 24 c) ∧ (hW h).ownsRow w.heap.size 5 1 (.slice D 24 c) 24 (u8v (pack 24 1 3 1 []))
/-- A row of one's own in a slot. -/
def RO (S : List Nat) (d : Nat) (e : TypeId) (n : Nat) (xs : List Value) (w : World) (u : Nat → Value) (t : Array Value) (h : Array Obj) : Prop := Kp 131 S u t ∧ HB w.heap h ∧ ∃ D c, t[d]? = some (.slice D n c) ∧ n ≤ c ∧ (hW h).ownsRow w.heap.size e 1 (.slice D n c) n xs
def RH (S : List Nat) (w : World) (u : Nat → Value) (t : Array Value) (h : Array Obj) : Prop := Kp 131 S u t ∧ HB w.heap h
/-- The blank page's bytes. -/
def blk (m : Nat) : List UInt8 := List.replicate m 255
theorem blk_snoc (m : Nat) : u8v (blk m) ++ [.int .u8 255] = u8v (blk (m + 1)) := by
  unfold blk u8v
  rw [List.replicate_succ', List.map_append]
  rfl
attribute [local irreducible] blk
set_option maxRecDepth 20000 in
set_option maxHeartbeats 4000000 in
theorem p1 (w : World) (x : Int) (h1 : -9223372036854775808 ≤ x) (h2 : x ≤ 9223372036854775807) (u : Nat → Value) : (kC 1).wp Try.prog (fun e a w' => e = .normal ∧ RV 131 [0, 1, 2] 9 (.int .i64 (1 + ((pickN x 8 : Nat) : Int))) w u a.tmps w'.heap) ⟨#[u 0, u 1, u 2, .int .i64 x, u 4, u 5, u 6, u 7, u 8, u 9, u 10, u 11, u 12, u 13, u 14, u 15, u 16, u 17, u 18, u 19, u 20, u 21, u 22, u 23, u 24, u 25, u 26, u 27, u 28, u 29, u 30, u 31, u 32, u 33, u 34, u 35, u 36, u 37, u 38, u 39, u 40, u 41, u 42, u 43, u 44, u 45, u 46, u 47, u 48, u 49, u 50, u 51, u 52, u 53, u 54, u 55, u 56, u 57, u 58, u 59, u 60, u 61, u 62, u 63, u 64, u 65, u 66, u 67, u 68, u 69, u 70, u 71, u 72, u 73, u 74, u 75, u 76, u 77, u 78, u 79, u 80, u 81, u 82, u 83, u 84, u 85, u 86, u 87, u 88, u 89, u 90, u 91, u 92, u 93, u 94, u 95, u 96, u 97, u 98, u 99, u 100, u 101, u 102, u 103, u 104, u 105, u 106, u 107, u 108, u 109, u 110, u 111, u 112, u 113, u 114, u 115, u 116, u 117, u 118, u 119, u 120, u 121, u 122, u 123, u 124, u 125, u 126, u 127, u 128, u 129, u 130], []⟩ w := by
  rw [show kC 1 = Co.sL (Co.sR ((Try.f5.body).getD .skip)) by kernel_rfl]
  simp only [Try.f5, Co.sL, Co.sR, Option.getD]
  have hp := pickN_lt x 8 (by omega)
  go_wp2_with fail
  refine (pick_any x 8 8 rfl (by omega) (by omega) h1 h2 w).mono ?_
  rintro e w2 ⟨rfl, rfl⟩
  go_wp2_with fail
  exact ⟨⟨rfl, by intro s hs; simp only [List.mem_cons, List.not_mem_nil, or_false] at hs; rcases hs with rfl | rfl | rfl <;> rfl⟩, rfl, rfl⟩
theorem p1' (w : World) (x : Int) (h1 : -9223372036854775808 ≤ x) (h2 : x ≤ 9223372036854775807) (t : Array Value) (ht : t.size = 131) (q3 : t[3]? = some (.int .i64 x)) : (kC 1).wp Try.prog (fun e a w' => e = .normal ∧ RV 131 [0, 1, 2] 9 (.int .i64 (1 + ((pickN x 8 : Nat) : Int))) w (fun i => t.getD i undef) a.tmps w'.heap) ⟨t, []⟩ w := by
  have e := lit131 t ht
  rw [getD_of q3] at e
  have h := p1 w x h1 h2 fun i => t.getD i undef
  dsimp only at h
  rw [← e] at h
  exact h
set_option maxRecDepth 20000 in
set_option maxHeartbeats 4000000 in
theorem p3n (w : World) (A : Option Addr) (L cp : Nat) (hL : L < 4096) (u : Nat → Value) : (kC 3).wp Try.prog (fun e a w' => e = .normal ∧ RV 131 [1, 2, 9, 10] 0 (.slice A L cp) w u a.tmps w'.heap) ⟨#[.slice A L cp, u 1, u 2, u 3, u 4, u 5, u 6, u 7, u 8, u 9, u 10, .nilIface, u 12, u 13, u 14, u 15, u 16, u 17, u 18, u 19, u 20, u 21, u 22, u 23, u 24, u 25, u 26, u 27, u 28, u 29, u 30, u 31, u 32, u 33, u 34, u 35, u 36, u 37, u 38, u 39, u 40, u 41, u 42, u 43, u 44, u 45, u 46, u 47, u 48, u 49, u 50, u 51, u 52, u 53, u 54, u 55, u 56, u 57, u 58, u 59, u 60, u 61, u 62, u 63, u 64, u 65, u 66, u 67, u 68, u 69, u 70, u 71, u 72, u 73, u 74, u 75, u 76, u 77, u 78, u 79, u 80, u 81, u 82, u 83, u 84, u 85, u 86, u 87, u 88, u 89, u 90, u 91, u 92, u 93, u 94, u 95, u 96, u 97, u 98, u 99, u 100, u 101, u 102, u 103, u 104, u 105, u 106, u 107, u 108, u 109, u 110, u 111, u 112, u 113, u 114, u 115, u 116, u 117, u 118, u 119, u 120, u 121, u 122, u 123, u 124, u 125, u 126, u 127, u 128, u 129, u 130], []⟩ w := by
  rw [show kC 3 = Co.sL (Co.sR (Co.sR (Co.sR ((Try.f5.body).getD .skip)))) by kernel_rfl]
  simp only [Try.f5, Co.sL, Co.sR, Option.getD]
  have e1 : ((L : Int) == 4096) = false := by simp; omega
  go_wp2_with fail
  exact ⟨⟨rfl, by intro s hs; simp only [List.mem_cons, List.not_mem_nil, or_false] at hs; rcases hs with rfl | rfl | rfl | rfl <;> rfl⟩, rfl, rfl⟩
theorem p3n' (w : World) (A : Option Addr) (L cp : Nat) (hL : L < 4096) (t : Array Value) (ht : t.size = 131) (q0 : t[0]? = some (.slice A L cp)) (q11 : t[11]? = some (.nilIface)) : (kC 3).wp Try.prog (fun e a w' => e = .normal ∧ RV 131 [1, 2, 9, 10] 0 (.slice A L cp) w (fun i => t.getD i undef) a.tmps w'.heap) ⟨t, []⟩ w := by
  have e := lit131 t ht
  rw [getD_of q0, getD_of q11] at e
  have h := p3n w A L cp hL fun i => t.getD i undef
  dsimp only at h
  rw [← e] at h
  exact h
set_option maxRecDepth 20000 in
set_option maxHeartbeats 4000000 in
theorem p3e (w : World) (A : Option Addr) (L cp : Nat) (hL : L = 4096) (u : Nat → Value) : (kC 3).wp Try.prog (fun e a w' => e = .ret ∧ RX 131 8 (.bool true) a.tmps w'.heap) ⟨#[.slice A L cp, u 1, u 2, u 3, u 4, u 5, u 6, u 7, u 8, u 9, u 10, .nilIface, u 12, u 13, u 14, u 15, u 16, u 17, u 18, u 19, u 20, u 21, u 22, u 23, u 24, u 25, u 26, u 27, u 28, u 29, u 30, u 31, u 32, u 33, u 34, u 35, u 36, u 37, u 38, u 39, u 40, u 41, u 42, u 43, u 44, u 45, u 46, u 47, u 48, u 49, u 50, u 51, u 52, u 53, u 54, u 55, u 56, u 57, u 58, u 59, u 60, u 61, u 62, u 63, u 64, u 65, u 66, u 67, u 68, u 69, u 70, u 71, u 72, u 73, u 74, u 75, u 76, u 77, u 78, u 79, u 80, u 81, u 82, u 83, u 84, u 85, u 86, u 87, u 88, u 89, u 90, u 91, u 92, u 93, u 94, u 95, u 96, u 97, u 98, u 99, u 100, u 101, u 102, u 103, u 104, u 105, u 106, u 107, u 108, u 109, u 110, u 111, u 112, u 113, u 114, u 115, u 116, u 117, u 118, u 119, u 120, u 121, u 122, u 123, u 124, u 125, u 126, u 127, u 128, u 129, u 130], []⟩ w := by
  rw [show kC 3 = Co.sL (Co.sR (Co.sR (Co.sR ((Try.f5.body).getD .skip)))) by kernel_rfl]
  simp only [Try.f5, Co.sL, Co.sR, Option.getD]
  subst hL
  go_wp2_with fail
  exact ⟨rfl, rfl⟩
theorem p3e' (w : World) (A : Option Addr) (L cp : Nat) (hL : L = 4096) (t : Array Value) (ht : t.size = 131) (q0 : t[0]? = some (.slice A L cp)) (q11 : t[11]? = some (.nilIface)) : (kC 3).wp Try.prog (fun e a w' => e = .ret ∧ RX 131 8 (.bool true) a.tmps w'.heap) ⟨t, []⟩ w := by
  have e := lit131 t ht
  rw [getD_of q0, getD_of q11] at e
  have h := p3e w A L cp hL fun i => t.getD i undef
  dsimp only at h
  rw [← e] at h
  exact h
set_option maxRecDepth 20000 in
set_option maxHeartbeats 4000000 in
theorem p3f (w : World) (A : Option Addr) (L cp : Nat) (t1 : TypeId) (v1 : Value) (hL : 4096 < L) (u : Nat → Value) : (kC 3).wp Try.prog (fun e a w' => e = .ret ∧ RX 131 8 (.bool true) a.tmps w'.heap) ⟨#[.slice A L cp, u 1, u 2, u 3, u 4, u 5, u 6, u 7, u 8, u 9, u 10, .iface t1 v1, u 12, u 13, u 14, u 15, u 16, u 17, u 18, u 19, u 20, u 21, u 22, u 23, u 24, u 25, u 26, u 27, u 28, u 29, u 30, u 31, u 32, u 33, u 34, u 35, u 36, u 37, u 38, u 39, u 40, u 41, u 42, u 43, u 44, u 45, u 46, u 47, u 48, u 49, u 50, u 51, u 52, u 53, u 54, u 55, u 56, u 57, u 58, u 59, u 60, u 61, u 62, u 63, u 64, u 65, u 66, u 67, u 68, u 69, u 70, u 71, u 72, u 73, u 74, u 75, u 76, u 77, u 78, u 79, u 80, u 81, u 82, u 83, u 84, u 85, u 86, u 87, u 88, u 89, u 90, u 91, u 92, u 93, u 94, u 95, u 96, u 97, u 98, u 99, u 100, u 101, u 102, u 103, u 104, u 105, u 106, u 107, u 108, u 109, u 110, u 111, u 112, u 113, u 114, u 115, u 116, u 117, u 118, u 119, u 120, u 121, u 122, u 123, u 124, u 125, u 126, u 127, u 128, u 129, u 130], []⟩ w := by
  rw [show kC 3 = Co.sL (Co.sR (Co.sR (Co.sR ((Try.f5.body).getD .skip)))) by kernel_rfl]
  simp only [Try.f5, Co.sL, Co.sR, Option.getD]
  have e1 : decide ((4096 : Int) ≤ (L : Int)) = true := by simp; omega
  go_wp2_with fail
  exact ⟨rfl, rfl⟩
theorem p3f' (w : World) (A : Option Addr) (L cp : Nat) (t1 : TypeId) (v1 : Value) (hL : 4096 < L) (t : Array Value) (ht : t.size = 131) (q0 : t[0]? = some (.slice A L cp)) (q11 : t[11]? = some (.iface t1 v1)) : (kC 3).wp Try.prog (fun e a w' => e = .ret ∧ RX 131 8 (.bool true) a.tmps w'.heap) ⟨t, []⟩ w := by
  have e := lit131 t ht
  rw [getD_of q0, getD_of q11] at e
  have h := p3f w A L cp t1 v1 hL fun i => t.getD i undef
  dsimp only at h
  rw [← e] at h
  exact h
set_option maxRecDepth 20000 in
set_option maxHeartbeats 4000000 in
theorem p4 (w : World) (u : Nat → Value) : (kC 4).wp Try.prog (fun e a w' => e = .normal ∧ R5 w u a.tmps w'.heap) ⟨#[u 0, u 1, u 2, u 3, u 4, u 5, u 6, u 7, u 8, u 9, u 10, u 11, u 12, u 13, u 14, u 15, u 16, u 17, u 18, u 19, u 20, u 21, u 22, u 23, u 24, u 25, u 26, u 27, u 28, u 29, u 30, u 31, u 32, u 33, u 34, u 35, u 36, u 37, u 38, u 39, u 40, u 41, u 42, u 43, u 44, u 45, u 46, u 47, u 48, u 49, u 50, u 51, u 52, u 53, u 54, u 55, u 56, u 57, u 58, u 59, u 60, u 61, u 62, u 63, u 64, u 65, u 66, u 67, u 68, u 69, u 70, u 71, u 72, u 73, u 74, u 75, u 76, u 77, u 78, u 79, u 80, u 81, u 82, u 83, u 84, u 85, u 86, u 87, u 88, u 89, u 90, u 91, u 92, u 93, u 94, u 95, u 96, u 97, u 98, u 99, u 100, u 101, u 102, u 103, u 104, u 105, u 106, u 107, u 108, u 109, u 110, u 111, u 112, u 113, u 114, u 115, u 116, u 117, u 118, u 119, u 120, u 121, u 122, u 123, u 124, u 125, u 126, u 127, u 128, u 129, u 130], []⟩ w := by
  rw [show kC 4 = Co.sL (Co.sR (Co.sR (Co.sR (Co.sR ((Try.f5.body).getD .skip))))) by kernel_rfl]
  simp only [Try.f5, Co.sL, Co.sR, Option.getD]
  go_wp2_with fail
  refine (pack_ok 24 1 3 1 none [] 0 0 w (by omega) (by omega) (by omega) (by omega) (by omega) (by omega) (by omega) (by omega) rfl (by omega) (Rd.nil _ _)).mono ?_
  rintro e w2 ⟨v, rfl, ho, hb⟩
  obtain ⟨D, c, rfl, -⟩ := own_form ho
  have HO := hide ho
  have HB := hide hb
  clear ho hb
  go_wp2_with fail
  exact ⟨⟨rfl, by intro s hs; simp only [List.mem_cons, List.not_mem_nil, or_false] at hs; rcases hs with rfl | rfl | rfl | rfl | rfl <;> rfl⟩, rfl, .of HB.out, D, c, rfl, own_hW HO.out⟩
theorem p4' (w : World) (t : Array Value) (ht : t.size = 131)  : (kC 4).wp Try.prog (fun e a w' => e = .normal ∧ R5 w (fun i => t.getD i undef) a.tmps w'.heap) ⟨t, []⟩ w := by
  have e := lit131 t ht
  have h := p4 w fun i => t.getD i undef
  dsimp only at h
  rw [← e] at h
  exact h
set_option maxRecDepth 20000 in
set_option maxHeartbeats 4000000 in
theorem p6 (w : World) (D : Option Addr) (cap : Nat) (u : Nat → Value) : (kC 6).wp Try.prog (fun e a w' => e = .normal ∧ RK 131 [0, 1, 2, 9, 10] w u a.tmps w'.heap) ⟨#[u 0, u 1, u 2, u 3, u 4, u 5, u 6, u 7, u 8, u 9, u 10, .nilIface, u 12, .slice D 1 cap, .nilIface, u 15, u 16, u 17, u 18, u 19, u 20, u 21, u 22, u 23, u 24, u 25, u 26, u 27, u 28, u 29, u 30, u 31, u 32, u 33, u 34, u 35, u 36, u 37, u 38, u 39, u 40, u 41, u 42, u 43, u 44, u 45, u 46, u 47, u 48, u 49, u 50, u 51, u 52, u 53, u 54, u 55, u 56, u 57, u 58, u 59, u 60, u 61, u 62, u 63, u 64, u 65, u 66, u 67, u 68, u 69, u 70, u 71, u 72, u 73, u 74, u 75, u 76, u 77, u 78, u 79, u 80, u 81, u 82, u 83, u 84, u 85, u 86, u 87, u 88, u 89, u 90, u 91, u 92, u 93, u 94, u 95, u 96, u 97, u 98, u 99, u 100, u 101, u 102, u 103, u 104, u 105, u 106, u 107, u 108, u 109, u 110, u 111, u 112, u 113, u 114, u 115, u 116, u 117, u 118, u 119, u 120, u 121, u 122, u 123, u 124, u 125, u 126, u 127, u 128, u 129, u 130], []⟩ w := by
  rw [show kC 6 = Co.sL (Co.sR (Co.sR (Co.sR (Co.sR (Co.sR (Co.sR ((Try.f5.body).getD .skip))))))) by kernel_rfl]
  simp only [Try.f5, Co.sL, Co.sR, Option.getD]
  go_wp2_with fail
  exact ⟨⟨rfl, by intro s hs; simp only [List.mem_cons, List.not_mem_nil, or_false] at hs; rcases hs with rfl | rfl | rfl | rfl | rfl <;> rfl⟩, rfl⟩
theorem p6' (w : World) (D : Option Addr) (cap : Nat) (t : Array Value) (ht : t.size = 131) (q11 : t[11]? = some (.nilIface)) (q13 : t[13]? = some (.slice D 1 cap)) (q14 : t[14]? = some (.nilIface)) : (kC 6).wp Try.prog (fun e a w' => e = .normal ∧ RK 131 [0, 1, 2, 9, 10] w (fun i => t.getD i undef) a.tmps w'.heap) ⟨t, []⟩ w := by
  have e := lit131 t ht
  rw [getD_of q11, getD_of q13, getD_of q14] at e
  have h := p6 w D cap fun i => t.getD i undef
  dsimp only at h
  rw [← e] at h
  exact h
def R7 (S : List Nat) (d1 : Nat) (v1 : Value) (d2 : Nat) (v2 : Value) (w : World) (u : Nat → Value) (t : Array Value) (h : Array Obj) : Prop := Kp 131 S u t ∧ h = w.heap ∧ t[d1]? = some v1 ∧ t[d2]? = some v2
/-- A row of one's own, grown: below B all stands. -/
def RB (B : Nat) (S : List Nat) (n : Nat) (xs : List Value) (w : World) (u : Nat → Value) (t : Array Value) (h : Array Obj) : Prop := Kp 131 S u t ∧ w.heap.size ≤ h.size ∧ (∀ k, k < B → h[k]? = w.heap[k]?) ∧ ∃ D c, t[18]? = some (.slice D n c) ∧ n ≤ c ∧ (hW h).ownsRow B 22 1 (.slice D n c) n xs
def RBV (B : Nat) (S : List Nat) (n : Nat) (xs : List Value) (d1 : Nat) (v1 : Value) (d2 : Nat) (v2 : Value) (w : World) (u : Nat → Value) (t : Array Value) (h : Array Obj) : Prop := RB B S n xs w u t h ∧ t[d1]? = some v1 ∧ t[d2]? = some v2
theorem sl_info : (Try.prog.info? 22).map (fun i => (i.zero, i.size, i.bytes)) = some (some (.slice none 0 0), 1, 24) := by kernel_rfl
theorem u8_info : (Try.prog.info? 5).map (fun i => (i.zero, i.size, i.bytes)) = some (some (.int .u8 0), 1, 1) := by kernel_rfl
theorem own0 (w : World) (e : TypeId) : (w.alloc (.cells #[] e)).ownsRow w.heap.size e 1 (.slice (some ⟨w.heap.size, 0, none⟩) 0 0) 0 [] :=
  ⟨rfl, .inr ⟨w.heap.size, 0, #[], rfl, Nat.le_refl _, heap_alloc_new w _, Nat.le_refl _, by simp only [maxLen]; omega, rfl, rfl⟩⟩
theorem own_le {w : World} {base : Nat} {e : TypeId} {D : Option Addr} {n c : Nat} {xs : List Value} (h : w.ownsRow base e 1 (.slice D n c) n xs) : n ≤ c := by
  obtain ⟨A, c', hv, h1, -⟩ := own_form h
  injection hv with _ _ hv
  omega
set_option maxRecDepth 20000 in
set_option maxHeartbeats 4000000 in
theorem p7 (w : World) (A : Option Addr) (L cp : Nat) (x : Int) (h1 : -9223372036854775808 ≤ x) (h2 : x ≤ 9223372036854775807) (hL : L < 4096) (u : Nat → Value) : (kC 7).wp Try.prog (fun e a w' => e = .normal ∧ R7 [2, 9, 10] 15 (.int .i64 ((pickN x (L + 1) : Nat) : Int)) 0 (.slice A L cp) w u a.tmps w'.heap) ⟨#[.slice A L cp, .int .i64 x, u 2, u 3, u 4, u 5, u 6, u 7, u 8, u 9, u 10, u 11, u 12, u 13, u 14, u 15, u 16, u 17, u 18, u 19, u 20, u 21, u 22, u 23, u 24, u 25, u 26, u 27, u 28, u 29, u 30, u 31, u 32, u 33, u 34, u 35, u 36, u 37, u 38, u 39, u 40, u 41, u 42, u 43, u 44, u 45, u 46, u 47, u 48, u 49, u 50, u 51, u 52, u 53, u 54, u 55, u 56, u 57, u 58, u 59, u 60, u 61, u 62, u 63, u 64, u 65, u 66, u 67, u 68, u 69, u 70, u 71, u 72, u 73, u 74, u 75, u 76, u 77, u 78, u 79, u 80, u 81, u 82, u 83, u 84, u 85, u 86, u 87, u 88, u 89, u 90, u 91, u 92, u 93, u 94, u 95, u 96, u 97, u 98, u 99, u 100, u 101, u 102, u 103, u 104, u 105, u 106, u 107, u 108, u 109, u 110, u 111, u 112, u 113, u 114, u 115, u 116, u 117, u 118, u 119, u 120, u 121, u 122, u 123, u 124, u 125, u 126, u 127, u 128, u 129, u 130], []⟩ w := by
  rw [show kC 7 = Co.sL (Co.sR (Co.sR (Co.sR (Co.sR (Co.sR (Co.sR (Co.sR ((Try.f5.body).getD .skip)))))))) by kernel_rfl]
  simp only [Try.f5, Co.sL, Co.sR, Option.getD]
  have hp := pickN_lt x (L + 1) (by omega)
  have q0 : (0 : Int) ≤ (L : Int) := by omega
  have q1 : (L : Int) < 4096 := by omega
  go_wp2_with fail
  refine (pick_any x (L + 1) ((L : Int) + 1) (by omega) (by omega) (by omega) h1 h2 w).mono ?_
  rintro e w2 ⟨rfl, rfl⟩
  go_wp2_with fail
  exact ⟨⟨rfl, by intro s hs; simp only [List.mem_cons, List.not_mem_nil, or_false] at hs; rcases hs with rfl | rfl | rfl <;> rfl⟩, rfl, rfl, rfl⟩
theorem p7' (w : World) (A : Option Addr) (L cp : Nat) (x : Int) (h1 : -9223372036854775808 ≤ x) (h2 : x ≤ 9223372036854775807) (hL : L < 4096) (t : Array Value) (ht : t.size = 131) (q0 : t[0]? = some (.slice A L cp)) (q1 : t[1]? = some (.int .i64 x)) : (kC 7).wp Try.prog (fun e a w' => e = .normal ∧ R7 [2, 9, 10] 15 (.int .i64 ((pickN x (L + 1) : Nat) : Int)) 0 (.slice A L cp) w (fun i => t.getD i undef) a.tmps w'.heap) ⟨t, []⟩ w := by
  have e := lit131 t ht
  rw [getD_of q0, getD_of q1] at e
  have h := p7 w A L cp x h1 h2 hL fun i => t.getD i undef
  dsimp only at h
  rw [← e] at h
  exact h
set_option maxRecDepth 20000 in
set_option maxHeartbeats 4000000 in
theorem p9 (w : World) (y : Int) (h1 : -9223372036854775808 ≤ y) (h2 : y ≤ 9223372036854775807) (u : Nat → Value) : (kC 9).wp Try.prog (fun e a w' => e = .normal ∧ RO [0, 9, 10, 15] 16 5 (1 + pickN y 60) (u8v (blk (1 + pickN y 60))) w u a.tmps w'.heap) ⟨#[u 0, u 1, .int .i64 y, u 3, u 4, u 5, u 6, u 7, u 8, u 9, u 10, u 11, u 12, u 13, u 14, u 15, .slice none 0 0, u 17, u 18, u 19, u 20, u 21, u 22, u 23, u 24, u 25, u 26, u 27, u 28, u 29, u 30, u 31, u 32, u 33, u 34, u 35, u 36, u 37, u 38, u 39, u 40, u 41, u 42, u 43, u 44, u 45, u 46, u 47, u 48, u 49, u 50, u 51, u 52, u 53, u 54, u 55, u 56, u 57, u 58, u 59, u 60, u 61, u 62, u 63, u 64, u 65, u 66, u 67, u 68, u 69, u 70, u 71, u 72, u 73, u 74, u 75, u 76, u 77, u 78, u 79, u 80, u 81, u 82, u 83, u 84, u 85, u 86, u 87, u 88, u 89, u 90, u 91, u 92, u 93, u 94, u 95, u 96, u 97, u 98, u 99, u 100, u 101, u 102, u 103, u 104, u 105, u 106, u 107, u 108, u 109, u 110, u 111, u 112, u 113, u 114, u 115, u 116, u 117, u 118, u 119, u 120, u 121, u 122, u 123, u 124, u 125, u 126, u 127, u 128, u 129, u 130], []⟩ w := by
  rw [show kC 9 = Co.sL (Co.sR (Co.sR (Co.sR (Co.sR (Co.sR (Co.sR (Co.sR (Co.sR (Co.sR ((Try.f5.body).getD .skip)))))))))) by kernel_rfl]
  simp only [Try.f5, Co.sL, Co.sR, Option.getD]
  have hp := pickN_lt y 60 (by omega)
  obtain ⟨m, hm⟩ : ∃ m, m = 1 + pickN y 60 := ⟨_, rfl⟩
  have HM := hide hm
  have hm6 : m ≤ 60 := by omega
  have hmi : (1 + ((pickN y 60 : Nat) : Int)) = (m : Int) := by omega
  rw [← hm]
  clear hm hp
  obtain ⟨i0, hi0, hz0, hz1, hz2⟩ := info_parts u8_info
  go_wp2_with fail
  go_loopw [16, 17] (fun v i wr => ∃ (k cc : Nat) (D : Option Addr), v = .slice D k cc ∧ i = .int .i64 k ∧ k ≤ m ∧ Hid (wr.ownsRow w.heap.size 5 1 (.slice D k cc) k (u8v (blk k))) ∧ Hid (Below w.heap.size w wr)) (fun _ i _ => m - (intOf i).toNat)
  case atStart => exact ⟨0, 0, none, rfl, rfl, by omega, hide (by unfold blk; exact World.ownsRow_nil _ _ _ _), hide (Below.refl _ _)⟩
  case round =>
    obtain ⟨k, cc, D, rfl, rfl, hk, HO, HB⟩ := hrel
    by_cases hlt : k < m
    · have e1 : decide ((k : Int) < (m : Int)) = true := by simp; omega
      go_wp2_with fail
      refine (pick_any y 60 60 rfl (by omega) (by omega) h1 h2 wr).mono ?_
      rintro e w2 ⟨rfl, rfl⟩
      go_wp2_with (first
        | (have hal := (Below.refl wr.heap.size wr).alloc (Nat.le_refl _) (.cells #[.int .u8 255] 5)
           refine wpList_append_rd _ rfl (.tmp 75) (.tmp 76) 22 rfl w.heap.size 5 i0 _ 1 Try.underlying22 hi0 hz0 hz1 hz2 rfl (.slice D k cc) k (u8v (blk k)) rfl (own_below HO.out hal (Nat.le_refl _)) (some ⟨wr.heap.size, 0, none⟩) 1 1 [.int .u8 255] rfl rfl (Rd.one _ _ _) (by intro u hu; simp at hu; subst hu; rfl) (by simp only [maxLen]; omega) (by omega) (Nat.le_trans HB.out.size hal.size) ?_
           intro v' w' ho' hg'
           rw [blk_snoc] at ho'
           obtain ⟨D', c', rfl, -⟩ := own_form ho'
           have HO' := hide ho'
           have HB' := hide ((HB.out.alloc HB.out.size (.cells #[.int .u8 255] 5)).grown hg' (Nat.le_trans HB.out.size hal.size) (fun k h => (HO.out.lt k h).1))
           clear ho' hg' hal))
      go_roundw
      case rel => exact ⟨k + 1, c', D', rfl, by go_num, by omega, HO', HB'⟩
      case measure => simp [intOf]; omega
    · obtain rfl : k = m := by omega
      have e1 : decide ((k : Int) < (k : Int)) = false := by simp
      go_wp2_with fail
      refine (pick_any y 60 60 rfl (by omega) (by omega) h1 h2 wr).mono ?_
      rintro e w2 ⟨rfl, rfl⟩
      go_wp2_with fail
      exact ⟨⟨rfl, by intro s hs; simp only [List.mem_cons, List.not_mem_nil, or_false] at hs; rcases hs with rfl | rfl | rfl | rfl <;> rfl⟩, .of HB.out, D, cc, rfl, own_le HO.out, own_hW HO.out⟩
theorem p9' (w : World) (y : Int) (h1 : -9223372036854775808 ≤ y) (h2 : y ≤ 9223372036854775807) (t : Array Value) (ht : t.size = 131) (q2 : t[2]? = some (.int .i64 y)) (q16 : t[16]? = some (.slice none 0 0)) : (kC 9).wp Try.prog (fun e a w' => e = .normal ∧ RO [0, 9, 10, 15] 16 5 (1 + pickN y 60) (u8v (blk (1 + pickN y 60))) w (fun i => t.getD i undef) a.tmps w'.heap) ⟨t, []⟩ w := by
  have e := lit131 t ht
  rw [getD_of q2, getD_of q16] at e
  have h := p9 w y h1 h2 fun i => t.getD i undef
  dsimp only at h
  rw [← e] at h
  exact h
set_option maxRecDepth 20000 in
set_option maxHeartbeats 4000000 in
theorem p10 (w : World) (A : Option Addr) (L cp k : Nat) (P : List Value) (hP : P.length = L) (hr : Rd w A P) (hk : k ≤ L) (hL : L < 4096) (hc : L ≤ cp) (hcm : cp ≤ 9223372036854775807) (h1 : ∀ u ∈ P, u.oneCell' = true) (u : Nat → Value) : (kC 10).wp Try.prog (fun e a w' => e = .normal ∧ RBV w.heap.size [9, 10, 16] k (P.take k) 0 (.slice A L cp) 15 (.int .i64 k) w u a.tmps w'.heap) ⟨#[.slice A L cp, u 1, u 2, u 3, u 4, u 5, u 6, u 7, u 8, u 9, u 10, u 11, u 12, u 13, u 14, .int .i64 k, u 16, u 17, u 18, u 19, u 20, u 21, u 22, u 23, u 24, u 25, u 26, u 27, u 28, u 29, u 30, u 31, u 32, u 33, u 34, u 35, u 36, u 37, u 38, u 39, u 40, u 41, u 42, u 43, u 44, u 45, u 46, u 47, u 48, u 49, u 50, u 51, u 52, u 53, u 54, u 55, u 56, u 57, u 58, u 59, u 60, u 61, u 62, u 63, u 64, u 65, u 66, u 67, u 68, u 69, u 70, u 71, u 72, u 73, u 74, u 75, u 76, u 77, u 78, u 79, u 80, u 81, u 82, u 83, u 84, u 85, u 86, u 87, u 88, u 89, u 90, u 91, u 92, u 93, u 94, u 95, u 96, u 97, u 98, u 99, u 100, u 101, u 102, u 103, u 104, u 105, u 106, u 107, u 108, u 109, u 110, u 111, u 112, u 113, u 114, u 115, u 116, u 117, u 118, u 119, u 120, u 121, u 122, u 123, u 124, u 125, u 126, u 127, u 128, u 129, u 130], []⟩ w := by
  rw [show kC 10 = Co.sL (Co.sR (Co.sR (Co.sR (Co.sR (Co.sR (Co.sR (Co.sR (Co.sR (Co.sR (Co.sR ((Try.f5.body).getD .skip))))))))))) by kernel_rfl]
  simp only [Try.f5, Co.sL, Co.sR, Option.getD]
  have HP := hide hP
  have H1 := hide h1
  clear hP h1
  have k0 : (0 : Int) ≤ (k : Int) := by omega
  have k1 : (k : Int) ≤ (cp : Int) := by omega
  obtain ⟨i0, hi0, hz0, hz1, hz2⟩ := info_parts sl_info
  go_wp2_with (first
    | (have hal := (Below.refl w.heap.size w).alloc (Nat.le_refl _) (.cells #[] 22)
       refine wpList_append_rd _ rfl (.tmp 78) (.tmp 81) 39 rfl w.heap.size 22 i0 _ 24 Try.underlying39 hi0 hz0 hz1 hz2 rfl (.slice (some ⟨w.heap.size, 0, none⟩) 0 0) 0 [] rfl (own0 w _) A k cp (P.take k) rfl (by rw [List.length_take, HP.out]; omega) ((hr.take k).alloc _) (fun u hu => H1.out u (List.mem_of_mem_take hu)) (by simp only [maxLen]; omega) (by omega) hal.size ?_
       intro v' w' ho' hg'
       rw [List.nil_append, Nat.zero_add] at ho'
       obtain ⟨D', c', rfl, -⟩ := own_form ho'
       have HO' := hide ho'
       have HB' := hide (hal.grown hg' hal.size (fun k h => (own0 w 22).lt k h |>.1))
       clear ho' hg' hal))
  exact ⟨⟨⟨rfl, by intro s hs; simp only [List.mem_cons, List.not_mem_nil, or_false] at hs; rcases hs with rfl | rfl | rfl <;> rfl⟩, HB'.out.size, HB'.out.block, D', c', rfl, own_le HO'.out, own_hW HO'.out⟩, rfl, rfl⟩
theorem p10' (w : World) (A : Option Addr) (L cp k : Nat) (P : List Value) (hP : P.length = L) (hr : Rd w A P) (hk : k ≤ L) (hL : L < 4096) (hc : L ≤ cp) (hcm : cp ≤ 9223372036854775807) (h1 : ∀ u ∈ P, u.oneCell' = true) (t : Array Value) (ht : t.size = 131) (q0 : t[0]? = some (.slice A L cp)) (q15 : t[15]? = some (.int .i64 k)) : (kC 10).wp Try.prog (fun e a w' => e = .normal ∧ RBV w.heap.size [9, 10, 16] k (P.take k) 0 (.slice A L cp) 15 (.int .i64 k) w (fun i => t.getD i undef) a.tmps w'.heap) ⟨t, []⟩ w := by
  have e := lit131 t ht
  rw [getD_of q0, getD_of q15] at e
  have h := p10 w A L cp k P hP hr hk hL hc hcm h1 fun i => t.getD i undef
  dsimp only at h
  rw [← e] at h
  exact h
set_option maxRecDepth 20000 in
set_option maxHeartbeats 4000000 in
theorem p11 (w : World) (B : Nat) (D V : Option Addr) (k c m cv : Nat) (xs : List Value) (hB : B ≤ w.heap.size) (ho : w.ownsRow B 22 1 (.slice D k c) k xs) (hk : k < 4096) (u : Nat → Value) : (kC 11).wp Try.prog (fun e a w' => e = .normal ∧ RB B [0, 9, 10, 15] (k + 1) (xs ++ [.slice V m cv]) w u a.tmps w'.heap) ⟨#[u 0, u 1, u 2, u 3, u 4, u 5, u 6, u 7, u 8, u 9, u 10, u 11, u 12, u 13, u 14, u 15, .slice V m cv, u 17, .slice D k c, u 19, u 20, u 21, u 22, u 23, u 24, u 25, u 26, u 27, u 28, u 29, u 30, u 31, u 32, u 33, u 34, u 35, u 36, u 37, u 38, u 39, u 40, u 41, u 42, u 43, u 44, u 45, u 46, u 47, u 48, u 49, u 50, u 51, u 52, u 53, u 54, u 55, u 56, u 57, u 58, u 59, u 60, u 61, u 62, u 63, u 64, u 65, u 66, u 67, u 68, u 69, u 70, u 71, u 72, u 73, u 74, u 75, u 76, u 77, u 78, u 79, u 80, u 81, u 82, u 83, u 84, u 85, u 86, u 87, u 88, u 89, u 90, u 91, u 92, u 93, u 94, u 95, u 96, u 97, u 98, u 99, u 100, u 101, u 102, u 103, u 104, u 105, u 106, u 107, u 108, u 109, u 110, u 111, u 112, u 113, u 114, u 115, u 116, u 117, u 118, u 119, u 120, u 121, u 122, u 123, u 124, u 125, u 126, u 127, u 128, u 129, u 130], []⟩ w := by
  rw [show kC 11 = Co.sL (Co.sR (Co.sR (Co.sR (Co.sR (Co.sR (Co.sR (Co.sR (Co.sR (Co.sR (Co.sR (Co.sR ((Try.f5.body).getD .skip)))))))))))) by kernel_rfl]
  simp only [Try.f5, Co.sL, Co.sR, Option.getD]
  have HO := hide ho
  clear ho
  obtain ⟨i0, hi0, hz0, hz1, hz2⟩ := info_parts sl_info
  go_wp2_with (first
    | (have hal := (Below.refl w.heap.size w).alloc (Nat.le_refl _) (.cells #[.slice V m cv] 22)
       refine wpList_append_rd _ rfl (.tmp 83) (.tmp 85) 39 rfl B 22 i0 _ 24 Try.underlying39 hi0 hz0 hz1 hz2 rfl (.slice D k c) k xs rfl (own_below HO.out hal (Nat.le_refl _)) (some ⟨w.heap.size, 0, none⟩) 1 1 [.slice V m cv] rfl rfl (Rd.one _ _ _) (by intro u hu; simp at hu; subst hu; rfl) (by simp only [maxLen]; omega) (by omega) (Nat.le_trans hB hal.size) ?_
       intro v' w' ho' hg'
       obtain ⟨D', c', rfl, -⟩ := own_form ho'
       have HO' := hide ho'
       have HB' := hide ((hal.mono hB).grown hg' (Nat.le_trans hB hal.size) (fun k h => (HO.out.lt k h).1))
       clear ho' hg' hal))
  exact ⟨⟨rfl, by intro s hs; simp only [List.mem_cons, List.not_mem_nil, or_false] at hs; rcases hs with rfl | rfl | rfl | rfl <;> rfl⟩, HB'.out.size, HB'.out.block, D', c', rfl, own_le HO'.out, own_hW HO'.out⟩
theorem p11' (w : World) (B : Nat) (D V : Option Addr) (k c m cv : Nat) (xs : List Value) (hB : B ≤ w.heap.size) (ho : w.ownsRow B 22 1 (.slice D k c) k xs) (hk : k < 4096) (t : Array Value) (ht : t.size = 131) (q16 : t[16]? = some (.slice V m cv)) (q18 : t[18]? = some (.slice D k c)) : (kC 11).wp Try.prog (fun e a w' => e = .normal ∧ RB B [0, 9, 10, 15] (k + 1) (xs ++ [.slice V m cv]) w (fun i => t.getD i undef) a.tmps w'.heap) ⟨t, []⟩ w := by
  have e := lit131 t ht
  rw [getD_of q16, getD_of q18] at e
  have h := p11 w B D V k c m cv xs hB ho hk fun i => t.getD i undef
  dsimp only at h
  rw [← e] at h
  exact h
set_option maxRecDepth 20000 in
set_option maxHeartbeats 4000000 in
theorem p12 (w : World) (B : Nat) (D A : Option Addr) (n c L cp k : Nat) (xs P : List Value) (hB : B ≤ w.heap.size) (ho : w.ownsRow B 22 1 (.slice D n c) n xs) (hn : n ≤ 4096) (hP : P.length = L) (hr : Rd w A P) (hk : k ≤ L) (hL : L < 4096) (hc : L ≤ cp) (hcm : cp ≤ 9223372036854775807) (h1 : ∀ u ∈ P, u.oneCell' = true) (u : Nat → Value) : (kC 12).wp Try.prog (fun e a w' => e = .normal ∧ RBV B [9, 10] (n + (L - k)) (xs ++ P.drop k) 15 (.int .i64 k) 15 (.int .i64 k) w u a.tmps w'.heap) ⟨#[.slice A L cp, u 1, u 2, u 3, u 4, u 5, u 6, u 7, u 8, u 9, u 10, u 11, u 12, u 13, u 14, .int .i64 k, u 16, u 17, .slice D n c, u 19, u 20, u 21, u 22, u 23, u 24, u 25, u 26, u 27, u 28, u 29, u 30, u 31, u 32, u 33, u 34, u 35, u 36, u 37, u 38, u 39, u 40, u 41, u 42, u 43, u 44, u 45, u 46, u 47, u 48, u 49, u 50, u 51, u 52, u 53, u 54, u 55, u 56, u 57, u 58, u 59, u 60, u 61, u 62, u 63, u 64, u 65, u 66, u 67, u 68, u 69, u 70, u 71, u 72, u 73, u 74, u 75, u 76, u 77, u 78, u 79, u 80, u 81, u 82, u 83, u 84, u 85, u 86, u 87, u 88, u 89, u 90, u 91, u 92, u 93, u 94, u 95, u 96, u 97, u 98, u 99, u 100, u 101, u 102, u 103, u 104, u 105, u 106, u 107, u 108, u 109, u 110, u 111, u 112, u 113, u 114, u 115, u 116, u 117, u 118, u 119, u 120, u 121, u 122, u 123, u 124, u 125, u 126, u 127, u 128, u 129, u 130], []⟩ w := by
  rw [show kC 12 = Co.sL (Co.sR (Co.sR (Co.sR (Co.sR (Co.sR (Co.sR (Co.sR (Co.sR (Co.sR (Co.sR (Co.sR (Co.sR ((Try.f5.body).getD .skip))))))))))))) by kernel_rfl]
  simp only [Try.f5, Co.sL, Co.sR, Option.getD]
  have HO := hide ho
  have HP := hide hP
  have H1 := hide h1
  clear ho hP h1
  have k0 : (0 : Int) ≤ (k : Int) := by omega
  have k1 : (k : Int) ≤ (L : Int) := by omega
  have k2 : (L : Int) ≤ (cp : Int) := by omega
  obtain ⟨i0, hi0, hz0, hz1, hz2⟩ := info_parts sl_info
  go_wp2_with (first
    | (refine wpList_append_rd _ rfl (.tmp 87) (.tmp 90) 39 rfl B 22 i0 _ 24 Try.underlying39 hi0 hz0 hz1 hz2 rfl (.slice D n c) n xs rfl HO.out (if cp = k then A else A.map (·.add k)) (L - k) (cp - k) (P.drop k) rfl (by rw [List.length_drop, HP.out]) (hr.drop k cp (by rw [HP.out]; omega)) (fun u hu => H1.out u (List.mem_of_mem_drop hu)) (by simp only [maxLen]; omega) (by omega) hB ?_
       intro v' w' ho' hg'
       obtain ⟨D', c', rfl, -⟩ := own_form ho'
       have HO' := hide ho'
       have HB' := hide ((Below.refl B w).grown hg' hB (fun k h => (HO.out.lt k h).1))
       clear ho' hg')
    | fail)
  all_goals exact ⟨⟨⟨rfl, by intro s hs; simp only [List.mem_cons, List.not_mem_nil, or_false] at hs; rcases hs with rfl | rfl <;> rfl⟩, HB'.out.size, HB'.out.block, D', c', rfl, own_le HO'.out, own_hW HO'.out⟩, rfl, rfl⟩
theorem p12' (w : World) (B : Nat) (D A : Option Addr) (n c L cp k : Nat) (xs P : List Value) (hB : B ≤ w.heap.size) (ho : w.ownsRow B 22 1 (.slice D n c) n xs) (hn : n ≤ 4096) (hP : P.length = L) (hr : Rd w A P) (hk : k ≤ L) (hL : L < 4096) (hc : L ≤ cp) (hcm : cp ≤ 9223372036854775807) (h1 : ∀ u ∈ P, u.oneCell' = true) (t : Array Value) (ht : t.size = 131) (q0 : t[0]? = some (.slice A L cp)) (q15 : t[15]? = some (.int .i64 k)) (q18 : t[18]? = some (.slice D n c)) : (kC 12).wp Try.prog (fun e a w' => e = .normal ∧ RBV B [9, 10] (n + (L - k)) (xs ++ P.drop k) 15 (.int .i64 k) 15 (.int .i64 k) w (fun i => t.getD i undef) a.tmps w'.heap) ⟨t, []⟩ w := by
  have e := lit131 t ht
  rw [getD_of q0, getD_of q15, getD_of q18] at e
  have h := p12 w B D A n c L cp k xs P hB ho hn hP hr hk hL hc hcm h1 fun i => t.getD i undef
  dsimp only at h
  rw [← e] at h
  exact h
set_option maxRecDepth 20000 in
set_option maxHeartbeats 4000000 in
theorem p14 (w : World) (D D2 : Option Addr) (n c c2 : Nat) (u : Nat → Value) : (kC 14).wp Try.prog (fun e a w' => e = .normal ∧ R7 [15] 10 (.slice D n c) 19 (.slice D2 n c2) w u a.tmps w'.heap) ⟨#[u 0, u 1, u 2, u 3, u 4, u 5, u 6, u 7, u 8, u 9, .slice D n c, .nilIface, u 12, u 13, u 14, u 15, u 16, u 17, u 18, .slice D2 n c2, u 20, u 21, u 22, u 23, u 24, u 25, u 26, u 27, u 28, u 29, u 30, u 31, u 32, u 33, u 34, u 35, u 36, u 37, u 38, u 39, u 40, u 41, u 42, u 43, u 44, u 45, u 46, u 47, u 48, u 49, u 50, u 51, u 52, u 53, u 54, u 55, u 56, u 57, u 58, u 59, u 60, u 61, u 62, u 63, u 64, u 65, u 66, u 67, u 68, u 69, u 70, u 71, u 72, u 73, u 74, u 75, u 76, u 77, u 78, u 79, u 80, u 81, u 82, u 83, u 84, u 85, u 86, u 87, u 88, u 89, u 90, u 91, u 92, u 93, u 94, u 95, u 96, u 97, u 98, u 99, u 100, u 101, u 102, u 103, u 104, u 105, u 106, u 107, u 108, u 109, u 110, u 111, u 112, u 113, u 114, u 115, u 116, u 117, u 118, u 119, u 120, u 121, u 122, u 123, u 124, u 125, u 126, u 127, u 128, u 129, u 130], []⟩ w := by
  rw [show kC 14 = Co.sL (Co.sR (Co.sR (Co.sR (Co.sR (Co.sR (Co.sR (Co.sR (Co.sR (Co.sR (Co.sR (Co.sR (Co.sR (Co.sR (Co.sR ((Try.f5.body).getD .skip))))))))))))))) by kernel_rfl]
  simp only [Try.f5, Co.sL, Co.sR, Option.getD]
  have q : ((n : Int) != (n : Int)) = false := by simp
  go_wp2_with fail
  exact ⟨⟨rfl, by intro s hs; simp only [List.mem_cons, List.not_mem_nil, or_false] at hs; rcases hs with rfl <;> rfl⟩, rfl, rfl, rfl⟩
theorem p14' (w : World) (D D2 : Option Addr) (n c c2 : Nat) (t : Array Value) (ht : t.size = 131) (q10 : t[10]? = some (.slice D n c)) (q11 : t[11]? = some (.nilIface)) (q19 : t[19]? = some (.slice D2 n c2)) : (kC 14).wp Try.prog (fun e a w' => e = .normal ∧ R7 [15] 10 (.slice D n c) 19 (.slice D2 n c2) w (fun i => t.getD i undef) a.tmps w'.heap) ⟨t, []⟩ w := by
  have e := lit131 t ht
  rw [getD_of q10, getD_of q11, getD_of q19] at e
  have h := p14 w D D2 n c c2 fun i => t.getD i undef
  dsimp only at h
  rw [← e] at h
  exact h
set_option maxRecDepth 20000 in
set_option maxHeartbeats 4000000 in
theorem p16 (w : World) (u : Nat → Value) : (kE 16).wp Try.prog (fun e a w' => e = .ret ∧ RX 131 8 (.bool true) a.tmps w'.heap) ⟨#[u 0, u 1, u 2, u 3, u 4, u 5, u 6, u 7, u 8, u 9, u 10, u 11, u 12, u 13, u 14, u 15, u 16, u 17, u 18, u 19, u 20, u 21, u 22, u 23, u 24, u 25, u 26, u 27, u 28, u 29, u 30, u 31, u 32, u 33, u 34, u 35, u 36, u 37, u 38, u 39, u 40, u 41, u 42, u 43, u 44, u 45, u 46, u 47, u 48, u 49, u 50, u 51, u 52, u 53, u 54, u 55, u 56, u 57, u 58, u 59, u 60, u 61, u 62, u 63, u 64, u 65, u 66, u 67, u 68, u 69, u 70, u 71, u 72, u 73, u 74, u 75, u 76, u 77, u 78, u 79, u 80, u 81, u 82, u 83, u 84, u 85, u 86, u 87, u 88, u 89, u 90, u 91, u 92, u 93, u 94, u 95, u 96, u 97, u 98, u 99, u 100, u 101, u 102, u 103, u 104, u 105, u 106, u 107, u 108, u 109, u 110, u 111, u 112, u 113, u 114, u 115, u 116, u 117, u 118, u 119, u 120, u 121, u 122, u 123, u 124, u 125, u 126, u 127, u 128, u 129, u 130], []⟩ w := by
  rw [show kE 16 = (Co.sR (Co.sR (Co.sR (Co.sR (Co.sR (Co.sR (Co.sR (Co.sR (Co.sR (Co.sR (Co.sR (Co.sR (Co.sR (Co.sR (Co.sR (Co.sR ((Try.f5.body).getD .skip))))))))))))))))) by kernel_rfl]
  simp only [Try.f5, Co.sL, Co.sR, Option.getD]
  go_wp2_with fail
  exact ⟨rfl, rfl⟩
theorem p16' (w : World) (t : Array Value) (ht : t.size = 131)  : (kE 16).wp Try.prog (fun e a w' => e = .ret ∧ RX 131 8 (.bool true) a.tmps w'.heap) ⟨t, []⟩ w := by
  have e := lit131 t ht
  have h := p16 w fun i => t.getD i undef
  dsimp only at h
  rw [← e] at h
  exact h
set_option maxRecDepth 20000 in
set_option maxHeartbeats 4000000 in
theorem p15 (w : World) (A B : Option Addr) (n c c2 k : Nat) (a0 p s q p2 : Nat → Int) (hA : RdF w A n a0 p s q) (hB : RdF w B n a0 p2 s q) (hp : ∀ i, i < n → -1000000 ≤ p i ∧ p i ≤ 1000000 ∧ p2 i = if (k : Int) ≤ p i then p i + 1 else p i) (hn : n ≤ 9223372036854775807) (u : Nat → Value) : (kC 15).wp Try.prog (fun e a w' => e = .normal ∧ Kp 131 [] u a.tmps) ⟨#[u 0, u 1, u 2, u 3, u 4, u 5, u 6, u 7, u 8, u 9, .slice A n c, u 11, u 12, u 13, u 14, .int .i64 k, u 16, u 17, u 18, .slice B n c2, u 20, u 21, u 22, u 23, u 24, u 25, u 26, u 27, u 28, u 29, u 30, u 31, u 32, u 33, u 34, u 35, u 36, u 37, u 38, u 39, u 40, u 41, u 42, u 43, u 44, u 45, u 46, u 47, u 48, u 49, u 50, u 51, u 52, u 53, u 54, u 55, u 56, u 57, u 58, u 59, u 60, u 61, u 62, u 63, u 64, u 65, u 66, u 67, u 68, u 69, u 70, u 71, u 72, u 73, u 74, u 75, u 76, u 77, u 78, u 79, u 80, u 81, u 82, u 83, u 84, u 85, u 86, u 87, u 88, u 89, u 90, u 91, u 92, u 93, u 94, u 95, u 96, u 97, u 98, u 99, u 100, u 101, u 102, u 103, u 104, u 105, u 106, u 107, u 108, u 109, u 110, u 111, u 112, u 113, u 114, u 115, u 116, u 117, u 118, u 119, u 120, u 121, u 122, u 123, u 124, u 125, u 126, u 127, u 128, u 129, u 130], []⟩ w := by
  rw [show kC 15 = Co.sL (Co.sR (Co.sR (Co.sR (Co.sR (Co.sR (Co.sR (Co.sR (Co.sR (Co.sR (Co.sR (Co.sR (Co.sR (Co.sR (Co.sR (Co.sR ((Try.f5.body).getD .skip)))))))))))))))) by kernel_rfl]
  simp only [Try.f5, Co.sL, Co.sR, Option.getD]
  have HA := hide hA
  have HB := hide hB
  have HPP := hide hp
  clear hA hB hp
  go_wp2_with fail
  go_loopw [20] (fun i wr => ∃ j : Nat, i = .int .i64 j ∧ j ≤ n ∧ Hid (Below w.heap.size w wr)) (fun i _ => n - (intOf i).toNat)
  case atStart => exact ⟨0, rfl, by omega, hide (Below.refl _ _)⟩
  case round =>
    obtain ⟨j, rfl, hj, HL⟩ := hrel
    by_cases hlt : j < n
    · have e1 : decide (j < n) = true := by simpa using hlt
      have e1' : decide ((j : Int) < (n : Int)) = true := by simp; omega
      have hji : (j : Int) < (n : Int) := by omega
      have hj0 : (0 : Int) ≤ (j : Int) := by omega
      obtain ⟨ba, oa, rfl, a0', a1, a2, a3⟩ := HA.out j hlt
      obtain ⟨bb, ob, rfl, b0, b1, b2, b3⟩ := HB.out j hlt
      obtain ⟨r1, r2, r3⟩ := HPP.out j hlt
      rw [r3] at b1
      clear r3
      generalize a0 j = x0 at a0' b0
      generalize p j = x1 at a1 b1 r1 r2
      generalize s j = x2 at a2 b2
      generalize q j = x3 at a3 b3
      have la : ba < w.heap.size := World.block_lt_of_cell? w _ a0'
      have lb : bb < w.heap.size := World.block_lt_of_cell? w _ b0
      replace a0' := (HL.out.cell (p := ⟨ba, _, none⟩) la).trans a0'
      replace a1 := (HL.out.cell (p := ⟨ba, _, none⟩) la).trans a1
      replace a2 := (HL.out.cell (p := ⟨ba, _, none⟩) la).trans a2
      replace a3 := (HL.out.cell (p := ⟨ba, _, none⟩) la).trans a3
      replace b0 := (HL.out.cell (p := ⟨bb, _, none⟩) lb).trans b0
      replace b1 := (HL.out.cell (p := ⟨bb, _, none⟩) lb).trans b1
      replace b2 := (HL.out.cell (p := ⟨bb, _, none⟩) lb).trans b2
      replace b3 := (HL.out.cell (p := ⟨bb, _, none⟩) lb).trans b3
      by_cases hkx : (k : Int) ≤ x1
      · rw [if_pos hkx] at b1
        have e2 : decide ((k : Int) ≤ x1) = true := by simpa using hkx
        go_wp2_with fail
        have hb1 := (Below.refl wr.heap.size wr).alloc (Nat.le_refl _) (.cells #[.int .i64 x0, .int .i64 (x1 + 1), .int .i64 x2, .int .i64 x3] 44)
        have hF := Bk.new wr 44 #[.int .i64 x0, .int .i64 (x1 + 1), .int .i64 x2, .int .i64 x3]
        have l2 : bb < wr.heap.size := Nat.lt_of_lt_of_le lb HL.out.size
        replace b0 := (hb1.cell (p := ⟨bb, _, none⟩) l2).trans b0
        replace b1 := (hb1.cell (p := ⟨bb, _, none⟩) l2).trans b1
        replace b2 := (hb1.cell (p := ⟨bb, _, none⟩) l2).trans b2
        replace b3 := (hb1.cell (p := ⟨bb, _, none⟩) l2).trans b3
        have c0 := hF.at_ (i := 0) (u := .int .i64 x0) rfl
        have c1 := hF.at_ (i := 1) (u := .int .i64 (x1 + 1)) rfl
        have c2' := hF.at_ (i := 2) (u := .int .i64 x2) rfl
        have c3 := hF.at_ (i := 3) (u := .int .i64 x3) rfl
        have HL2 := hide (HL.out.alloc HL.out.size (.cells #[.int .i64 x0, .int .i64 (x1 + 1), .int .i64 x2, .int .i64 x3] 44))
        clear hF hb1 a0' a1 a2 a3
        generalize wr.alloc (.cells #[.int .i64 x0, .int .i64 (x1 + 1), .int .i64 x2, .int .i64 x3] 44) = w1 at b0 b1 b2 b3 c0 c1 c2' c3 HL2 ⊢
        go_quiet (fail)
        go_wp2_with fail
        go_roundw
        case rel => exact ⟨j + 1, by go_num, by omega, hide ⟨HL2.out.os, HL2.out.tape, HL2.out.output, HL2.out.size, HL2.out.block⟩⟩
        case measure => simp [intOf]; omega
      · rw [if_neg hkx] at b1
        have e2 : decide ((k : Int) ≤ x1) = false := by simpa using hkx
        go_wp2_with fail
        have hb1 := (Below.refl wr.heap.size wr).alloc (Nat.le_refl _) (.cells #[.int .i64 x0, .int .i64 x1, .int .i64 x2, .int .i64 x3] 44)
        have hF := Bk.new wr 44 #[.int .i64 x0, .int .i64 x1, .int .i64 x2, .int .i64 x3]
        have l2 : bb < wr.heap.size := Nat.lt_of_lt_of_le lb HL.out.size
        replace b0 := (hb1.cell (p := ⟨bb, _, none⟩) l2).trans b0
        replace b1 := (hb1.cell (p := ⟨bb, _, none⟩) l2).trans b1
        replace b2 := (hb1.cell (p := ⟨bb, _, none⟩) l2).trans b2
        replace b3 := (hb1.cell (p := ⟨bb, _, none⟩) l2).trans b3
        have c0 := hF.at_ (i := 0) (u := .int .i64 x0) rfl
        have c1 := hF.at_ (i := 1) (u := .int .i64 (x1)) rfl
        have c2' := hF.at_ (i := 2) (u := .int .i64 x2) rfl
        have c3 := hF.at_ (i := 3) (u := .int .i64 x3) rfl
        have HL2 := hide (HL.out.alloc HL.out.size (.cells #[.int .i64 x0, .int .i64 x1, .int .i64 x2, .int .i64 x3] 44))
        clear hF hb1 a0' a1 a2 a3
        generalize wr.alloc (.cells #[.int .i64 x0, .int .i64 x1, .int .i64 x2, .int .i64 x3] 44) = w1 at b0 b1 b2 b3 c0 c1 c2' c3 HL2 ⊢
        go_quiet (fail)
        go_wp2_with fail
        go_roundw
        case rel => exact ⟨j + 1, by go_num, by omega, hide ⟨HL2.out.os, HL2.out.tape, HL2.out.output, HL2.out.size, HL2.out.block⟩⟩
        case measure => simp [intOf]; omega
    · obtain rfl : j = n := by omega
      have e1 : decide (j < j) = false := by simp
      have e1' : decide ((j : Int) < (j : Int)) = false := by simp
      go_wp2_with fail
      exact ⟨rfl, by intro s hs; cases hs⟩
theorem p15' (w : World) (A B : Option Addr) (n c c2 k : Nat) (a0 p s q p2 : Nat → Int) (hA : RdF w A n a0 p s q) (hB : RdF w B n a0 p2 s q) (hp : ∀ i, i < n → -1000000 ≤ p i ∧ p i ≤ 1000000 ∧ p2 i = if (k : Int) ≤ p i then p i + 1 else p i) (hn : n ≤ 9223372036854775807) (t : Array Value) (ht : t.size = 131) (q10 : t[10]? = some (.slice A n c)) (q15 : t[15]? = some (.int .i64 k)) (q19 : t[19]? = some (.slice B n c2)) : (kC 15).wp Try.prog (fun e a w' => e = .normal ∧ Kp 131 [] (fun i => t.getD i undef) a.tmps) ⟨t, []⟩ w := by
  have e := lit131 t ht
  rw [getD_of q10, getD_of q15, getD_of q19] at e
  have h := p15 w A B n c c2 k a0 p s q p2 hA hB hp hn fun i => t.getD i undef
  dsimp only at h
  rw [← e] at h
  exact h
end Go.Proofs.Ytlaipigilikmbaa.BlW
