/- The pieces of granarytop.one, each alone. -/
import Derived.Test.YtlaipigilikmbaaMa14
import Derived.Test.YtlaipigilikmbaaProtectMa
import Derived.Test.YtlaipigilikmbaaMa7
import Derived.Test.YtlaipigilikmbaaMa30
set_option linter.unusedVariables false
set_option linter.unusedSimpArgs false
namespace Go.Proofs.Ytlaipigilikmbaa.OneW
open Go Go.RowKit Go.Proofs Go.Proofs.Ytlaipigilikmbaa Go.Proofs.Ytlaipigilikmbaa.Cl PutW CrcW Fram Crc PackW FrameW GetW ApartW OpenW
attribute [local irreducible] pack
noncomputable def kE : Nat → Code
  | 0 => (Try.f7.body).getD .skip
  | i + 1 => Co.sR (kE i)
noncomputable def kC (i : Nat) : Code := Co.sL (kE i)
theorem kE0 : kE 0 = .seq (kC 0) (kE 1) := by kernel_rfl
theorem kE1 : kE 1 = .seq (kC 1) (kE 2) := by kernel_rfl
theorem kE2 : kE 2 = .seq (kC 2) (kE 3) := by kernel_rfl
theorem kE3 : kE 3 = .seq (kC 3) (kE 4) := by kernel_rfl
theorem litu (t : Array Value) (h : t.size = 51) : ∃ u : Nat → Value, (fun i => t.getD i undef) = u ∧ t = #[u 0, u 1, u 2, u 3, u 4, u 5, u 6, u 7, u 8, u 9, u 10, u 11, u 12, u 13, u 14, u 15, u 16, u 17, u 18, u 19, u 20, u 21, u 22, u 23, u 24, u 25, u 26, u 27, u 28, u 29, u 30, u 31, u 32, u 33, u 34, u 35, u 36, u 37, u 38, u 39, u 40, u 41, u 42, u 43, u 44, u 45, u 46, u 47, u 48, u 49, u 50] := ⟨_, rfl, (slots_of 51 t h).trans (by kernel_rfl)⟩
theorem uat {t : Array Value} {u : Nat → Value} (hu : (fun i => t.getD i undef) = u) {i : Nat} {v : Value} (h : t[i]? = some v) : u i = v := by rw [← hu]; exact getD_of h
def R1 (w : World) (t : Array Value) (h : Array Obj) : Prop := t.size = 51 ∧ t[2]? = some .nilIface ∧ HB w.heap h ∧ ∃ D c, t[1]? = some (.slice D 24 c) ∧ 24 ≤ c ∧ (hW h).ownsRow w.heap.size 5 1 (.slice D 24 c) 24 (u8v (pack 24 1 1 1 [5]))
def R3 (w : World) (u : Nat → Value) (t : Array Value) (h : Array Obj) : Prop := Kp 51 [2, 3, 4] u t ∧ HB w.heap h ∧ t[6]? = some .nilIface ∧ ∃ D c, t[5]? = some (.slice D 3 c)
set_option maxRecDepth 20000 in
set_option maxHeartbeats 1000000 in
theorem p1 (w : World) (t : Array Value) (ht : t.size = 51)  : (kC 1).wp Try.prog (fun e a w' => e = .normal ∧ R1 w a.tmps w'.heap) ⟨t, []⟩ w := by
  obtain ⟨u, hu, e⟩ := litu t ht
  clear hu ht
  subst e
  rw [show kC 1 = Co.sL (Co.sR ((Try.f7.body).getD .skip)) by kernel_rfl]
  simp only [Try.f7, Co.sL, Co.sR, Option.getD]
  have hb0 : Below w.heap.size w (w.alloc (.cells #[.int .u8 5] 5)) := (Below.refl _ _).alloc (Nat.le_refl _) _
  have hr0 : Rd (w.alloc (.cells #[.int .u8 5] 5)) (some ⟨w.heap.size, 0, none⟩) (u8v [5]) := Rd.one _ _ _
  go_wp2_with fail
  refine (pack_ok 24 1 1 1 _ [5] 1 1 _ (by omega) (by omega) (by omega) (by omega) (by omega) (by omega) (by omega) (by omega) rfl (by omega) hr0).mono ?_
  rintro e w2 ⟨v, rfl, ho, hb⟩
  have ho' := own_base ho hb0.size
  obtain ⟨D, c, rfl, hc, -⟩ := own_form ho'
  have HO := hide ho'
  have HB2 := hide (hb0.trans (hb.mono hb0.size))
  clear ho hb hb0 hr0 ho'
  go_wp2_with fail
  exact ⟨rfl, rfl, .of HB2.out, D, c, rfl, hc, own_hW HO.out⟩
set_option maxRecDepth 20000 in
set_option maxHeartbeats 1000000 in
theorem p3 (w : World) (D : Option Addr) (c : Nat) (l : List UInt8) (hl : 24 = l.length) (hc : 24 ≤ c) (hr : Rd w D (u8v l)) (t : Array Value) (ht : t.size = 51) (q1 : t[1]? = some (.slice D 24 c)) : (kC 3).wp Try.prog (fun e a w' => e = .normal ∧ R3 w (fun i => t.getD i undef) a.tmps w'.heap) ⟨t, []⟩ w := by
  obtain ⟨u, hu, e⟩ := litu t ht
  rw [hu]
  rw [uat hu q1] at e
  clear hu ht q1
  subst e
  rw [show kC 3 = Co.sL (Co.sR (Co.sR (Co.sR ((Try.f7.body).getD .skip)))) by kernel_rfl]
  simp only [Try.f7, Co.sL, Co.sR, Option.getD]
  have HL := hide hl
  clear hl
  go_wp2_with fail
  refine (ProtectW.protect_ok D l 24 c w HL.out rfl (by omega) hc hr).mono ?_
  rw [show 24 / 8 = 3 from rfl]
  rintro e w2 ⟨v, rfl, ho, hb⟩
  obtain ⟨D5, c5, rfl, -⟩ := own_form ho
  have HB2 := hide hb
  clear ho hb hr HL
  go_wp2_with fail
  exact ⟨⟨rfl, by intro s hs; simp only [List.mem_cons, List.not_mem_nil, or_false] at hs; rcases hs with rfl | rfl | rfl <;> rfl⟩, .of HB2.out, rfl, D5, c5, rfl⟩
set_option maxRecDepth 20000 in
set_option maxHeartbeats 1000000 in
theorem p4 (w : World) (g cap c : Nat) (D : Option Addr) (hc : w.cell? ⟨g, 0, none⟩ = some (.int .i64 1)) (t : Array Value) (ht : t.size = 51) (q2 : t[2]? = some (.nilIface)) (q3 : t[3]? = some (.slice (some ⟨g, 0, none⟩) 1 cap)) (q4 : t[4]? = some (.nilIface)) (q5 : t[5]? = some (.slice D 3 c)) (q6 : t[6]? = some (.nilIface)) : (kE 4).wp Try.prog (fun e a w' => e = .ret ∧ RX 51 0 (.bool true) a.tmps w'.heap) ⟨t, []⟩ w := by
  obtain ⟨u, hu, e⟩ := litu t ht
  rw [uat hu q2, uat hu q3, uat hu q4, uat hu q5, uat hu q6] at e
  clear hu ht q2 q3 q4 q5 q6
  subst e
  rw [show kE 4 = (Co.sR (Co.sR (Co.sR (Co.sR ((Try.f7.body).getD .skip))))) by kernel_rfl]
  simp only [Try.f7, Co.sL, Co.sR, Option.getD]
  go_wp2_with fail
  exact ⟨rfl, rfl⟩
end Go.Proofs.Ytlaipigilikmbaa.OneW
