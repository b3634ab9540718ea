/- The pieces of ScanJoins, each alone. -/
import Derived.Test.YtlaipigilikmbaaMa14
import Derived.Test.YtlaipigilikmbaaMa13
import Derived.Test.YtlaipigilikmbaaMa30
import Derived.Test.YtlaipigilikmbaaMa7
set_option linter.unusedVariables false
set_option linter.unusedSimpArgs false
namespace Go.Proofs.Ytlaipigilikmbaa.JoW
open Go Go.RowKit Go.Proofs Go.Proofs.Ytlaipigilikmbaa Go.Proofs.Ytlaipigilikmbaa.LwW Go.Proofs.Ytlaipigilikmbaa.Cl PutW CrcW Fram Crc PackW FrameW GetW ApartW OpenW
noncomputable def kE : Nat → Code
  | 0 => (Try.f4.body).getD .skip
  | i + 1 => Co.sR (kE i)
noncomputable def kC (i : Nat) : Code := Co.sL (kE i)
theorem litu (t : Array Value) (h : t.size = 197) : ∃ u : Nat → Value, (fun i => t.getD i undef) = u ∧ t = #[u 0, u 1, u 2, u 3, u 4, u 5, u 6, u 7, u 8, u 9, u 10, u 11, u 12, u 13, u 14, u 15, u 16, u 17, u 18, u 19, u 20, u 21, u 22, u 23, u 24, u 25, u 26, u 27, u 28, u 29, u 30, u 31, u 32, u 33, u 34, u 35, u 36, u 37, u 38, u 39, u 40, u 41, u 42, u 43, u 44, u 45, u 46, u 47, u 48, u 49, u 50, u 51, u 52, u 53, u 54, u 55, u 56, u 57, u 58, u 59, u 60, u 61, u 62, u 63, u 64, u 65, u 66, u 67, u 68, u 69, u 70, u 71, u 72, u 73, u 74, u 75, u 76, u 77, u 78, u 79, u 80, u 81, u 82, u 83, u 84, u 85, u 86, u 87, u 88, u 89, u 90, u 91, u 92, u 93, u 94, u 95, u 96, u 97, u 98, u 99, u 100, u 101, u 102, u 103, u 104, u 105, u 106, u 107, u 108, u 109, u 110, u 111, u 112, u 113, u 114, u 115, u 116, u 117, u 118, u 119, u 120, u 121, u 122, u 123, u 124, u 125, u 126, u 127, u 128, u 129, u 130, u 131, u 132, u 133, u 134, u 135, u 136, u 137, u 138, u 139, u 140, u 141, u 142, u 143, u 144, u 145, u 146, u 147, u 148, u 149, u 150, u 151, u 152, u 153, u 154, u 155, u 156, u 157, u 158, u 159, u 160, u 161, u 162, u 163, u 164, u 165, u 166, u 167, u 168, u 169, u 170, u 171, u 172, u 173, u 174, u 175, u 176, u 177, u 178, u 179, u 180, u 181, u 182, u 183, u 184, u 185, u 186, u 187, u 188, u 189, u 190, u 191, u 192, u 193, u 194, u 195, u 196] := ⟨_, rfl, (slots_of 197 t h).trans (by kernel_rfl)⟩
theorem uat {t : Array Value} {u : Nat → Value} (hu : (fun i => t.getD i undef) = u) {i : Nat} {v : Value} (h : t[i]? = some v) : u i = v := by rw [← hu]; exact getD_of h
theorem kE0 : kE 0 = .seq (kC 0) (kE 1) := by kernel_rfl
theorem kE1 : kE 1 = .seq (kC 1) (kE 2) := by kernel_rfl
theorem kE2 : kE 2 = .seq (kC 2) (kE 3) := by kernel_rfl
theorem kE3 : kE 3 = .seq (kC 3) (kE 4) := by kernel_rfl
theorem kE4 : kE 4 = .seq (kC 4) (kE 5) := by kernel_rfl
theorem kE5 : kE 5 = .seq (kC 5) (kE 6) := by kernel_rfl
theorem kE6 : kE 6 = .seq (kC 6) (kE 7) := by kernel_rfl
theorem kE7 : kE 7 = .seq (kC 7) (kE 8) := by kernel_rfl
theorem kE8 : kE 8 = .seq (kC 8) (kE 9) := by kernel_rfl
theorem kE9 : kE 9 = .seq (kC 9) (kE 10) := by kernel_rfl
theorem kE10 : kE 10 = .seq (kC 10) (kE 11) := by kernel_rfl
theorem kE11 : kE 11 = .seq (kC 11) (kE 12) := by kernel_rfl
theorem kE12 : kE 12 = .seq (kC 12) (kE 13) := by kernel_rfl
theorem kE13 : kE 13 = .seq (kC 13) (kE 14) := by kernel_rfl
theorem kE14 : kE 14 = .seq (kC 14) (kE 15) := by kernel_rfl
theorem kE15 : kE 15 = .seq (kC 15) (kE 16) := by kernel_rfl
def R1 (w : World) (u : Nat → Value) (t : Array Value) (h : Array Obj) : Prop := Kp 197 [0, 1, 2] u t ∧ t[8]? = some .nilIface ∧ HB w.heap h ∧ ∃ D c, t[7]? = some (.slice D 24 c) ∧ (hW h).ownsRow w.heap.size 5 1 (.slice D 24 c) 24 (u8v (pack 24 1 3 1 []))
/-- A row of one's own, grown: below B all stands. -/
def RB (B : Nat) (S : List Nat) (n : Nat) (xs : List Value) (d1 : Nat) (v1 : Value) (w : World) (u : Nat → Value) (t : Array Value) (h : Array Obj) : Prop := Kp 197 S u t ∧ w.heap.size ≤ h.size ∧ (∀ k, k < B → h[k]? = w.heap[k]?) ∧ t[d1]? = some v1 ∧ ∃ D c, t[12]? = some (.slice D n c) ∧ n ≤ c ∧ (hW h).ownsRow B 22 1 (.slice D n c) n xs
theorem sl_info : (Try.prog.info? 22).map (fun i => (i.zero, i.size, i.bytes)) = some (some (.slice none 0 0), 1, 24) := by kernel_rfl
theorem own0 (w : World) (e : TypeId) : (w.alloc (.cells #[] e)).ownsRow w.heap.size e 1 (.slice (some ⟨w.heap.size, 0, none⟩) 0 0) 0 [] :=
  ⟨rfl, .inr ⟨w.heap.size, 0, #[], rfl, Nat.le_refl _, heap_alloc_new w _, Nat.le_refl _, by simp only [maxLen]; omega, rfl, rfl⟩⟩
theorem own_le {w : World} {base : Nat} {e : TypeId} {D : Option Addr} {n c : Nat} {xs : List Value} (h : w.ownsRow base e 1 (.slice D n c) n xs) : n ≤ c := by
  obtain ⟨A, c', hv, h1, -⟩ := own_form h
  injection hv with _ _ hv
  omega
/-- The cells of n found. -/
def FC (cs : Array Value) (n : Nat) (a p s q : Nat → Int) : Prop := ∀ i, i < n → cs[i * 4]? = some (.int .i64 (a i)) ∧ cs[i * 4 + 1]? = some (.int .i64 (p i)) ∧ cs[i * 4 + 2]? = some (.int .i64 (s i)) ∧ cs[i * 4 + 3]? = some (.int .i64 (q i))
theorem FC.put {cs : Array Value} {n j : Nat} {a p s q : Nat → Int} (h : FC cs n a p s q) (hj : j < n) (v : Int) : FC (cs.setIfInBounds (j * 4 + 1) (.int .i64 v)) n a (fun i => if i = j then v else p i) s q := by
  intro i hi
  obtain ⟨h0, h1, h2, h3⟩ := h i hi
  have hl := (Array.getElem?_eq_some_iff.1 (h j hj).2.1).1
  simp only [Array.getElem?_setIfInBounds]
  refine ⟨by rw [if_neg (by omega)]; exact h0, ?_, by rw [if_neg (by omega)]; exact h2, by rw [if_neg (by omega)]; exact h3⟩
  by_cases e : i = j
  · subst e
    rw [if_pos rfl, if_pos hl, if_pos rfl]
  · rw [if_neg (by omega), if_neg e]
    exact h1
/-- What the first loop leaves: the rows' pages are moved. -/
def RL (S : List Nat) (D : Option Addr) (n c g : Nat) (a p s q : Nat → Int) (w : World) (u : Nat → Value) (t : Array Value) (h : Array Obj) : Prop := Kp 197 S u t ∧ t[15]? = some (.slice D n c) ∧ h.size = w.heap.size ∧ (∀ k, k ≠ g → h[k]? = w.heap[k]?) ∧ (0 < n → ∃ cs, Bk (hW h) g 44 cs ∧ FC cs n a p s q)
set_option maxRecDepth 20000 in
set_option maxHeartbeats 4000000 in
theorem p1' (w : World) (t : Array Value) (ht : t.size = 197)  : (kC 1).wp Try.prog (fun e a w' => e = .normal ∧ R1 w (fun i => t.getD i undef) a.tmps w'.heap) ⟨t, []⟩ w := by
  obtain ⟨u, hu, e⟩ := litu t ht
  rw [hu]
  clear hu ht
  subst e
  rw [show kC 1 = Co.sL (Co.sR ((Try.f4.body).getD .skip)) by kernel_rfl]
  simp only [Try.f4, Co.sL, Co.sR, Option.getD]
  go_wp2_with fail
  refine (pack_ok 24 1 3 1 none [] 0 0 w (by omega) (by omega) (by omega) (by omega) (by omega) (by omega) (by omega) (by omega) rfl (by omega) (Rd.nil _ _)).mono ?_
  rintro e w2 ⟨v, rfl, ho, hb⟩
  obtain ⟨D, c, rfl, -⟩ := own_form ho
  have HO := hide ho
  have HB := hide hb
  clear ho hb
  go_wp2_with fail
  exact ⟨⟨rfl, by intro s hs; simp only [List.mem_cons, List.not_mem_nil, or_false] at hs; rcases hs with rfl | rfl | rfl <;> rfl⟩, rfl, .of HB.out, D, c, rfl, own_hW HO.out⟩
set_option maxRecDepth 20000 in
set_option maxHeartbeats 4000000 in
theorem p3' (w : World) (g cap : Nat) (hc : w.cell? ⟨g, 0, none⟩ = some (.int .i64 3)) (t : Array Value) (ht : t.size = 197) (q8 : t[8]? = some (.nilIface)) (q9 : t[9]? = some (.slice (some ⟨g, 0, none⟩) 1 cap)) (q10 : t[10]? = some (.nilIface)) : (kC 3).wp Try.prog (fun e a w' => e = .normal ∧ RK 197 [0, 1, 2] w (fun i => t.getD i undef) a.tmps w'.heap) ⟨t, []⟩ w := by
  obtain ⟨u, hu, e⟩ := litu t ht
  rw [hu]
  rw [uat hu q8, uat hu q9, uat hu q10] at e
  clear hu ht q8 q9 q10
  subst e
  rw [show kC 3 = Co.sL (Co.sR (Co.sR (Co.sR ((Try.f4.body).getD .skip)))) by kernel_rfl]
  simp only [Try.f4, Co.sL, Co.sR, Option.getD]
  go_wp2_with fail
  exact ⟨⟨rfl, by intro s hs; simp only [List.mem_cons, List.not_mem_nil, or_false] at hs; rcases hs with rfl | rfl | rfl <;> rfl⟩, rfl⟩
set_option maxRecDepth 20000 in
set_option maxHeartbeats 4000000 in
theorem p4' (w : World) (x : Int) (h1 : -9223372036854775808 ≤ x) (h2 : x ≤ 9223372036854775807) (t : Array Value) (ht : t.size = 197) (q2 : t[2]? = some (.int .i64 x)) : (kC 4).wp Try.prog (fun e a w' => e = .normal ∧ RV 197 [0, 1] 11 (.int .i64 (1 + ((pickN x 8 : Nat) : Int))) w (fun i => t.getD i undef) a.tmps w'.heap) ⟨t, []⟩ w := by
  obtain ⟨u, hu, e⟩ := litu t ht
  rw [hu]
  rw [uat hu q2] at e
  clear hu ht q2
  subst e
  rw [show kC 4 = Co.sL (Co.sR (Co.sR (Co.sR (Co.sR ((Try.f4.body).getD .skip))))) by kernel_rfl]
  simp only [Try.f4, Co.sL, Co.sR, Option.getD]
  have hp := pickN_lt x 8 (by omega)
  go_wp2_with fail
  refine (pick_any x 8 8 rfl (by omega) (by omega) h1 h2 w).mono ?_
  rintro e w2 ⟨rfl, rfl⟩
  go_wp2_with fail
  exact ⟨⟨rfl, by intro s hs; simp only [List.mem_cons, List.not_mem_nil, or_false] at hs; rcases hs with rfl | rfl <;> rfl⟩, rfl, rfl⟩
set_option maxRecDepth 20000 in
set_option maxHeartbeats 4000000 in
theorem p5' (w : World) (A : Option Addr) (L cp : Nat) (P : List Value) (hP : P.length = L) (hr : Rd w A P) (hL : L ≤ 2000000) (h1 : ∀ u ∈ P, u.oneCell' = true) (t : Array Value) (ht : t.size = 197) (q0 : t[0]? = some (.slice A L cp)) : (kC 5).wp Try.prog (fun e a w' => e = .normal ∧ RB w.heap.size [1, 11] L P 0 (.slice A L cp) w (fun i => t.getD i undef) a.tmps w'.heap) ⟨t, []⟩ w := by
  obtain ⟨u, hu, e⟩ := litu t ht
  rw [hu]
  rw [uat hu q0] at e
  clear hu ht q0
  subst e
  rw [show kC 5 = Co.sL (Co.sR (Co.sR (Co.sR (Co.sR (Co.sR ((Try.f4.body).getD .skip)))))) by kernel_rfl]
  simp only [Try.f4, Co.sL, Co.sR, Option.getD]
  have HP := hide hP
  have H1 := hide h1
  clear hP h1
  obtain ⟨i0, hi0, hz0, hz1, hz2⟩ := info_parts sl_info
  go_wp2_with (first
    | (have hal := (Below.refl w.heap.size w).alloc (Nat.le_refl _) (.cells #[] 22)
       refine wpList_append_rd _ rfl (.tmp 55) (.tmp 56) 39 rfl w.heap.size 22 i0 _ 24 Try.underlying39 hi0 hz0 hz1 hz2 rfl (.slice (some ⟨w.heap.size, 0, none⟩) 0 0) 0 [] rfl (own0 w _) A L cp P rfl HP.out (hr.alloc _) H1.out (by simp only [maxLen]; omega) (by omega) hal.size ?_
       intro v' w' ho' hg'
       rw [List.nil_append, Nat.zero_add] at ho'
       obtain ⟨D', c', rfl, -⟩ := own_form ho'
       have HO' := hide ho'
       have HB' := hide (hal.grown hg' hal.size (fun k h => (own0 w 22).lt k h |>.1))
       clear ho' hg' hal))
  exact ⟨⟨rfl, by intro s hs; simp only [List.mem_cons, List.not_mem_nil, or_false] at hs; rcases hs with rfl | rfl <;> rfl⟩, HB'.out.size, HB'.out.block, rfl, D', c', rfl, own_le HO'.out, own_hW HO'.out⟩
set_option maxRecDepth 20000 in
set_option maxHeartbeats 4000000 in
theorem p6' (w : World) (B : Nat) (D B2 : Option Addr) (n c L cp : Nat) (xs P : List Value) (hB : B ≤ w.heap.size) (ho : w.ownsRow B 22 1 (.slice D n c) n xs) (hn : n ≤ 2000000) (hP : P.length = L) (hr : Rd w B2 P) (hL : L ≤ 2000000) (h1 : ∀ u ∈ P, u.oneCell' = true) (t : Array Value) (ht : t.size = 197) (q1 : t[1]? = some (.slice B2 L cp)) (q12 : t[12]? = some (.slice D n c)) : (kC 6).wp Try.prog (fun e a w' => e = .normal ∧ RB B [0, 11] (n + L) (xs ++ P) 1 (.slice B2 L cp) w (fun i => t.getD i undef) a.tmps w'.heap) ⟨t, []⟩ w := by
  obtain ⟨u, hu, e⟩ := litu t ht
  rw [hu]
  rw [uat hu q1, uat hu q12] at e
  clear hu ht q1 q12
  subst e
  rw [show kC 6 = Co.sL (Co.sR (Co.sR (Co.sR (Co.sR (Co.sR (Co.sR ((Try.f4.body).getD .skip))))))) by kernel_rfl]
  simp only [Try.f4, Co.sL, Co.sR, Option.getD]
  have HO := hide ho
  have HP := hide hP
  have H1 := hide h1
  clear ho hP h1
  obtain ⟨i0, hi0, hz0, hz1, hz2⟩ := info_parts sl_info
  go_wp2_with (first
    | (refine wpList_append_rd _ rfl (.tmp 58) (.tmp 59) 39 rfl B 22 i0 _ 24 Try.underlying39 hi0 hz0 hz1 hz2 rfl (.slice D n c) n xs rfl HO.out B2 L cp P rfl HP.out hr H1.out (by simp only [maxLen]; omega) (by omega) hB ?_
       intro v' w' ho' hg'
       obtain ⟨D', c', rfl, -⟩ := own_form ho'
       have HO' := hide ho'
       have HB' := hide ((Below.refl B w).grown hg' hB (fun k h => (HO.out.lt k h).1))
       clear ho' hg'))
  exact ⟨⟨rfl, by intro s hs; simp only [List.mem_cons, List.not_mem_nil, or_false] at hs; rcases hs with rfl | rfl <;> rfl⟩, HB'.out.size, HB'.out.block, rfl, D', c', rfl, own_le HO'.out, own_hW HO'.out⟩
set_option maxRecDepth 20000 in
set_option maxHeartbeats 4000000 in
theorem p8n' (w : World) (t : Array Value) (ht : t.size = 197) (q8 : t[8]? = some (.nilIface)) : (kC 8).wp Try.prog (fun e a w' => e = .normal ∧ RK 197 [0, 1, 11, 13] w (fun i => t.getD i undef) a.tmps w'.heap) ⟨t, []⟩ w := by
  obtain ⟨u, hu, e⟩ := litu t ht
  rw [hu]
  rw [uat hu q8] at e
  clear hu ht q8
  subst e
  rw [show kC 8 = Co.sL (Co.sR (Co.sR (Co.sR (Co.sR (Co.sR (Co.sR (Co.sR (Co.sR ((Try.f4.body).getD .skip))))))))) by kernel_rfl]
  simp only [Try.f4, Co.sL, Co.sR, Option.getD]
  go_wp2_with fail
  exact ⟨⟨rfl, by intro s hs; simp only [List.mem_cons, List.not_mem_nil, or_false] at hs; rcases hs with rfl | rfl | rfl | rfl <;> rfl⟩, rfl⟩
set_option maxRecDepth 20000 in
set_option maxHeartbeats 4000000 in
theorem p8f' (w : World) (D : Option Addr) (n c : Nat) (t1 : TypeId) (v1 : Value) (hn : 4096 < n) (t : Array Value) (ht : t.size = 197) (q8 : t[8]? = some (.iface t1 v1)) (q12 : t[12]? = some (.slice D n c)) : (kC 8).wp Try.prog (fun e a w' => e = .ret ∧ RX 197 6 (.bool true) a.tmps w'.heap) ⟨t, []⟩ w := by
  obtain ⟨u, hu, e⟩ := litu t ht
  rw [uat hu q8, uat hu q12] at e
  clear hu ht q8 q12
  subst e
  rw [show kC 8 = Co.sL (Co.sR (Co.sR (Co.sR (Co.sR (Co.sR (Co.sR (Co.sR (Co.sR ((Try.f4.body).getD .skip))))))))) by kernel_rfl]
  simp only [Try.f4, Co.sL, Co.sR, Option.getD]
  have e1 : decide ((4096 : Int) < (n : Int)) = true := by simp; omega
  go_wp2_with fail
  exact ⟨rfl, rfl⟩
set_option maxRecDepth 20000 in
set_option maxHeartbeats 4000000 in
theorem p11' (w : World) (t : Array Value) (ht : t.size = 197) (q8 : t[8]? = some (.nilIface)) (q10 : t[10]? = some (.nilIface)) : (kC 11).wp Try.prog (fun e a w' => e = .normal ∧ RK 197 [0, 13, 14, 15] w (fun i => t.getD i undef) a.tmps w'.heap) ⟨t, []⟩ w := by
  obtain ⟨u, hu, e⟩ := litu t ht
  rw [hu]
  rw [uat hu q8, uat hu q10] at e
  clear hu ht q8 q10
  subst e
  rw [show kC 11 = Co.sL (Co.sR (Co.sR (Co.sR (Co.sR (Co.sR (Co.sR (Co.sR (Co.sR (Co.sR (Co.sR (Co.sR ((Try.f4.body).getD .skip)))))))))))) by kernel_rfl]
  simp only [Try.f4, Co.sL, Co.sR, Option.getD]
  go_wp2_with fail
  exact ⟨⟨rfl, by intro s hs; simp only [List.mem_cons, List.not_mem_nil, or_false] at hs; rcases hs with rfl | rfl | rfl | rfl <;> rfl⟩, rfl⟩
set_option maxRecDepth 20000 in
set_option maxHeartbeats 4000000 in
theorem p12' (w : World) (A D : Option Addr) (n c L cp g : Nat) (cs : Array Value) (a0 p s q : Nat → Int) (hD : 0 < n → D = some ⟨g, 0, none⟩ ∧ Bk w g 44 cs ∧ FC cs n a0 p s q) (hL : L ≤ 2000000) (hp : ∀ i, i < n → -2000000 ≤ p i ∧ p i ≤ 2000000) (hn : n ≤ 9223372036854775807) (t : Array Value) (ht : t.size = 197) (q0 : t[0]? = some (.slice A L cp)) (q15 : t[15]? = some (.slice D n c)) : (kC 12).wp Try.prog (fun e a w' => e = .normal ∧ RL [13, 14] D n c g a0 (fun i => p i + L) s q w (fun i => t.getD i undef) a.tmps w'.heap) ⟨t, []⟩ w := by
  obtain ⟨u, hu, e⟩ := litu t ht
  rw [hu]
  rw [uat hu q0, uat hu q15] at e
  clear hu ht q0 q15
  subst e
  rw [show kC 12 = Co.sL (Co.sR (Co.sR (Co.sR (Co.sR (Co.sR (Co.sR (Co.sR (Co.sR (Co.sR (Co.sR (Co.sR (Co.sR ((Try.f4.body).getD .skip))))))))))))) by kernel_rfl]
  simp only [Try.f4, Co.sL, Co.sR, Option.getD]
  have HD := hide hD
  have HPP := hide hp
  clear hD hp
  go_wp2_with fail
  go_loopw [16] (fun i wr => ∃ j : Nat, i = .int .i64 j ∧ j ≤ n ∧ Hid (wr.heap.size = w.heap.size ∧ (∀ k, k ≠ g → wr.heap[k]? = w.heap[k]?) ∧ (0 < n → ∃ cs', Bk wr g 44 cs' ∧ FC cs' n a0 (fun i => if i < j then p i + L else p i) s q))) (fun i _ => n - (intOf i).toNat)
  case atStart => exact ⟨0, rfl, by omega, hide ⟨rfl, fun _ _ => rfl, fun h0 => ⟨cs, (HD.out h0).2.1, by simpa using (HD.out h0).2.2⟩⟩⟩
  case round =>
    obtain ⟨j, rfl, hj, HI⟩ := hrel
    by_cases hlt : j < n
    · have e1 : decide (j < n) = true := by simpa using hlt
      have e1' : decide ((j : Int) < (n : Int)) = true := by simp; omega
      have hji : (j : Int) < (n : Int) := by omega
      have hj0 : (0 : Int) ≤ (j : Int) := by omega
      obtain ⟨rfl, -, -⟩ := HD.out (by omega)
      obtain ⟨cs', hB, hF⟩ := HI.out.2.2 (by omega)
      have HF := hide hF
      clear hF
      have c1 := hB.at_ (HF.out j hlt).2.1
      dsimp only at c1
      rw [if_neg (Nat.lt_irrefl j)] at c1
      obtain ⟨r1, r2⟩ := HPP.out j hlt
      obtain ⟨x1, hx1⟩ : ∃ x1, x1 = p j := ⟨_, rfl⟩
      rw [← hx1] at c1 r1 r2
      have HX := hide hx1
      clear hx1
      have hfz := hB.free (j * 4 + 1)
      go_wp2_with fail
      go_roundw
      case rel =>
        refine ⟨j + 1, by go_num, by omega, hide ⟨by simpa [World.setCell] using HI.out.1, fun k hk => (Below.heap_setCell wr ⟨g, j * 4 + 1, none⟩ _ k hk).trans (HI.out.2.1 k hk), fun _ => ⟨_, hB.put (j * 4 + 1) _, fun i hi => ?_⟩⟩⟩
        have hx := HX.out
        have := FC.put HF.out hlt (x1 + L) i hi
        dsimp only at this ⊢
        by_cases e : i = j
        · subst e
          rw [if_pos rfl] at this
          rw [if_pos (by omega), ← hx]
          exact this
        · rw [if_neg e] at this
          by_cases e2 : i < j
          · rw [if_pos e2] at this
            rw [if_pos (by omega)]
            exact this
          · rw [if_neg e2] at this
            rw [if_neg (by omega)]
            exact this
      case measure => simp [intOf]; omega
    · obtain rfl : j = n := by omega
      have e1 : decide (j < j) = false := by simp
      have e1' : decide ((j : Int) < (j : Int)) = false := by simp
      go_wp2_with fail
      refine ⟨⟨rfl, by intro s hs; simp only [List.mem_cons, List.not_mem_nil, or_false] at hs; rcases hs with rfl | rfl <;> rfl⟩, rfl, HI.out.1, HI.out.2.1, fun h0 => ?_⟩
      obtain ⟨cs', hB, hF⟩ := HI.out.2.2 h0
      refine ⟨cs', hB, fun i hi => ?_⟩
      have := hF i hi
      dsimp only at this
      rw [if_pos hi] at this
      exact this
def R15 (X Y : Option Addr) (lx ly cx cy : Nat) (t : Array Value) : Prop := t.size = 197 ∧ t[17]? = some (.int .i64 lx) ∧ t[18]? = some (.int .i64 ly) ∧ t[14]? = some (.slice X lx cx) ∧ t[15]? = some (.slice Y ly cy)
/-- How the second loop goes. -/
structure Steps (lx ly ln : Nat) (xa xp xs xq ya yp ys yq la lp ls lq : Nat → Int) (St : Nat → Nat → Nat → Prop) : Prop where
  start : St 0 0 0
  le : ∀ n i k, St n i k → i ≤ lx ∧ k ≤ ly
  done : ∀ i k, St ln i k → i = lx ∧ k = ly
  step : ∀ n i k, n < ln → St n i k →
    (i < lx ∧ xa i = la n ∧ (k < ly → ya k ≠ la n) ∧ lp n = xp i ∧ ls n = xs i ∧ lq n = xq i ∧ St (n + 1) (i + 1) k) ∨
    ((i < lx → xa i ≠ la n) ∧ k < ly ∧ ya k = la n ∧ lp n = yp k ∧ ls n = ys k ∧ lq n = yq k ∧ St (n + 1) i (k + 1)) ∨
    (i < lx ∧ xa i = la n ∧ k < ly ∧ ya k = la n ∧ xs i ≤ ys k ∧ lp n = yp k ∧ ls n = ys k ∧ lq n = yq k ∧ St (n + 1) (i + 1) (k + 1)) ∨
    (i < lx ∧ xa i = la n ∧ k < ly ∧ ya k = la n ∧ ys k < xs i ∧ lp n = xp i ∧ ls n = xs i ∧ lq n = xq i ∧ St (n + 1) (i + 1) (k + 1))
/-- Four cells. -/
def R4 (w : World) (b o : Nat) (v0 v1 v2 v3 : Int) : Prop := w.cell? ⟨b, o, none⟩ = some (.int .i64 v0) ∧ w.cell? ⟨b, o + 1, none⟩ = some (.int .i64 v1) ∧ w.cell? ⟨b, o + 2, none⟩ = some (.int .i64 v2) ∧ w.cell? ⟨b, o + 3, none⟩ = some (.int .i64 v3)
theorem R4.below {B : Nat} {w w' : World} {b o : Nat} {v0 v1 v2 v3 : Int} (h : R4 w b o v0 v1 v2 v3) (hB : Below B w w') (hb : b < B) : R4 w' b o v0 v1 v2 v3 :=
  ⟨(hB.cell (p := ⟨b, _, none⟩) hb).trans h.1, (hB.cell (p := ⟨b, _, none⟩) hb).trans h.2.1, (hB.cell (p := ⟨b, _, none⟩) hb).trans h.2.2.1, (hB.cell (p := ⟨b, _, none⟩) hb).trans h.2.2.2⟩
/-- Where a round stands. -/
inductive Now (B : Nat) (wr : World) (A X Y : Option Addr) (lx ly i k n : Nat) (St : Nat → Nat → Nat → Prop) : Prop
  | xN (ba oa bx ox : Nat) (z0 z1 z2 z3 : Int) (hA : A = some ⟨ba, oa, none⟩) (lA : ba < B) (fA : R4 wr ba (oa + n * 4) z0 z1 z2 z3) (hi : i < lx) (hX : X = some ⟨bx, ox, none⟩) (lX : bx < B) (fX : R4 wr bx (ox + i * 4) z0 z1 z2 z3) (hk : k = ly) (hs : St (n + 1) (i + 1) k)
  | xY (ba oa bx ox bY oY : Nat) (z0 z1 z2 z3 t0 t1 t2 t3 : Int) (hA : A = some ⟨ba, oa, none⟩) (lA : ba < B) (fA : R4 wr ba (oa + n * 4) z0 z1 z2 z3) (hi : i < lx) (hX : X = some ⟨bx, ox, none⟩) (lX : bx < B) (fX : R4 wr bx (ox + i * 4) z0 z1 z2 z3) (hk : k < ly) (hY : Y = some ⟨bY, oY, none⟩) (lY : bY < B) (fY : R4 wr bY (oY + k * 4) t0 t1 t2 t3) (hne : t0 ≠ z0) (hs : St (n + 1) (i + 1) k)
  | yN (ba oa bY oY : Nat) (t0 t1 t2 t3 : Int) (hA : A = some ⟨ba, oa, none⟩) (lA : ba < B) (fA : R4 wr ba (oa + n * 4) t0 t1 t2 t3) (hi : i = lx) (hk : k < ly) (hY : Y = some ⟨bY, oY, none⟩) (lY : bY < B) (fY : R4 wr bY (oY + k * 4) t0 t1 t2 t3) (hs : St (n + 1) i (k + 1))
  | yX (ba oa bx ox bY oY : Nat) (z0 z1 z2 z3 t0 t1 t2 t3 : Int) (hA : A = some ⟨ba, oa, none⟩) (lA : ba < B) (fA : R4 wr ba (oa + n * 4) t0 t1 t2 t3) (hi : i < lx) (hX : X = some ⟨bx, ox, none⟩) (lX : bx < B) (fX : R4 wr bx (ox + i * 4) z0 z1 z2 z3) (hk : k < ly) (hY : Y = some ⟨bY, oY, none⟩) (lY : bY < B) (fY : R4 wr bY (oY + k * 4) t0 t1 t2 t3) (hne : z0 ≠ t0) (hs : St (n + 1) i (k + 1))
  | yy (ba oa bx ox bY oY : Nat) (z0 z1 z2 z3 t1 t2 t3 : Int) (hA : A = some ⟨ba, oa, none⟩) (lA : ba < B) (fA : R4 wr ba (oa + n * 4) z0 t1 t2 t3) (hi : i < lx) (hX : X = some ⟨bx, ox, none⟩) (lX : bx < B) (fX : R4 wr bx (ox + i * 4) z0 z1 z2 z3) (hk : k < ly) (hY : Y = some ⟨bY, oY, none⟩) (lY : bY < B) (fY : R4 wr bY (oY + k * 4) z0 t1 t2 t3) (hge : z2 ≤ t2) (hs : St (n + 1) (i + 1) (k + 1))
  | xx (ba oa bx ox bY oY : Nat) (z0 z1 z2 z3 t1 t2 t3 : Int) (hA : A = some ⟨ba, oa, none⟩) (lA : ba < B) (fA : R4 wr ba (oa + n * 4) z0 z1 z2 z3) (hi : i < lx) (hX : X = some ⟨bx, ox, none⟩) (lX : bx < B) (fX : R4 wr bx (ox + i * 4) z0 z1 z2 z3) (hk : k < ly) (hY : Y = some ⟨bY, oY, none⟩) (lY : bY < B) (fY : R4 wr bY (oY + k * 4) z0 t1 t2 t3) (hge : t2 < z2) (hs : St (n + 1) (i + 1) (k + 1))
theorem RdF.r4 {w wr : World} {A : Option Addr} {n : Nat} {a p s q : Nat → Int} (h : RdF w A n a p s q) {f : Nat} (hf : w.heap.size ≤ f) (hB : Below w.heap.size w wr) {i : Nat} (hi : i < n) : ∃ b o, A = some ⟨b, o, none⟩ ∧ b < f ∧ R4 wr b (o + i * 4) (a i) (p i) (s i) (q i) := by
  obtain ⟨b, o, rfl, h0, h1, h2, h3⟩ := h i hi
  have l : b < w.heap.size := World.block_lt_of_cell? w _ h0
  exact ⟨b, o, rfl, Nat.lt_of_lt_of_le l hf, R4.below ⟨h0, h1, h2, h3⟩ hB l⟩
theorem now {w wr : World} {A X Y : Option Addr} {lx ly ln i k n : Nat} {xa xp xs xq ya yp ys yq la lp ls lq : Nat → Int} {St : Nat → Nat → Nat → Prop} (hA : RdF w A ln la lp ls lq) (hX : RdF w X lx xa xp xs xq) (hY : RdF w Y ly ya yp ys yq) (hS : Steps lx ly ln xa xp xs xq ya yp ys yq la lp ls lq St) {f : Nat} (hf : w.heap.size ≤ f) (hB : Below w.heap.size w wr) (hn : n < ln) (h : St n i k) : Now f wr A X Y lx ly i k n St := by
  obtain ⟨ba, oa, e, lA, fA⟩ := RdF.r4 hA hf hB hn
  obtain ⟨hix, hky⟩ := hS.le n i k h
  rcases hS.step n i k hn h with ⟨g1, g2, g3, g4, g5, g6, g7⟩ | ⟨g1, g2, g3, g4, g5, g6, g7⟩ | ⟨g1, g2, g3, g4, g5, g6, g7, g8, g9⟩ | ⟨g1, g2, g3, g4, g5, g6, g7, g8, g9⟩
  · obtain ⟨bx, ox, ex, lX, fX⟩ := RdF.r4 hX hf hB g1
    rw [← g2, g4, g5, g6] at fA
    by_cases hk : k < ly
    · obtain ⟨bY, oY, ey, lY, fY⟩ := RdF.r4 hY hf hB hk
      exact .xY _ _ _ _ _ _ _ _ _ _ _ _ _ _ e lA fA g1 ex lX fX hk ey lY fY (g2 ▸ g3 hk) g7
    · exact .xN _ _ _ _ _ _ _ _ e lA fA g1 ex lX fX (by omega) g7
  · obtain ⟨bY, oY, ey, lY, fY⟩ := RdF.r4 hY hf hB g2
    rw [← g3, g4, g5, g6] at fA
    by_cases hi : i < lx
    · obtain ⟨bx, ox, ex, lX, fX⟩ := RdF.r4 hX hf hB hi
      exact .yX _ _ _ _ _ _ _ _ _ _ _ _ _ _ e lA fA hi ex lX fX g2 ey lY fY (g3 ▸ g1 hi) g7
    · exact .yN _ _ _ _ _ _ _ _ e lA fA (by omega) g2 ey lY fY g7
  · obtain ⟨bx, ox, ex, lX, fX⟩ := RdF.r4 hX hf hB g1
    obtain ⟨bY, oY, ey, lY, fY⟩ := RdF.r4 hY hf hB g3
    rw [← g2, g6, g7, g8] at fA
    rw [g4, ← g2] at fY
    exact .yy _ _ _ _ _ _ _ _ _ _ _ _ _ e lA fA g1 ex lX fX g3 ey lY fY g5 g9
  · obtain ⟨bx, ox, ex, lX, fX⟩ := RdF.r4 hX hf hB g1
    obtain ⟨bY, oY, ey, lY, fY⟩ := RdF.r4 hY hf hB g3
    rw [← g2, g6, g7, g8] at fA
    rw [g4, ← g2] at fY
    exact .xx _ _ _ _ _ _ _ _ _ _ _ _ _ e lA fA g1 ex lX fX g3 ey lY fY g5 g9
theorem at4 {w : World} {f : Nat} {t : TypeId} {u0 u1 u2 u3 : Value} (h : Bk w f t #[u0, u1, u2, u3]) : w.frozen? ⟨f, 0, none⟩ = false ∧ w.frozen? ⟨f, 1, none⟩ = false ∧ w.frozen? ⟨f, 2, none⟩ = false ∧ w.frozen? ⟨f, 3, none⟩ = false ∧ w.cell? ⟨f, 0, none⟩ = some u0 ∧ w.cell? ⟨f, 1, none⟩ = some u1 ∧ w.cell? ⟨f, 2, none⟩ = some u2 ∧ w.cell? ⟨f, 3, none⟩ = some u3 := ⟨h.free 0, h.free 1, h.free 2, h.free 3, h.at_ rfl, h.at_ rfl, h.at_ rfl, h.at_ rfl⟩
theorem wp_put4 {c : Code} {Q : Exit → Act → World → Prop} {a : Act} {w1 : World} {f n : Nat} {t : TypeId} {u0 u1 u2 u3 v0 v1 v2 v3 : Value} (hF : Bk w1 f t #[u0, u1, u2, u3]) (h : ∀ w2, Bk w2 f t #[v0, v1, v2, v3] → Below f w1 w2 → c.wp Try.prog Q a w2) : c.wp Try.prog Q a (((((w1.drewN n).setCell ⟨f, 0, none⟩ v0).setCell ⟨f, 1, none⟩ v1).setCell ⟨f, 2, none⟩ v2).setCell ⟨f, 3, none⟩ v3) := by
  refine h _ ((((hF.drewN n).put 0 v0).put 1 v1).put 2 v2 |>.put 3 v3) ?_
  exact (((⟨rfl, rfl, rfl, Nat.le_refl _, fun _ _ => rfl⟩ : Below f w1 (w1.drewN n)).setCell (p := ⟨f, 0, none⟩) (Nat.le_refl _) v0).setCell (p := ⟨f, 1, none⟩) (Nat.le_refl _) v1).setCell (p := ⟨f, 2, none⟩) (Nat.le_refl _) v2 |>.setCell (p := ⟨f, 3, none⟩) (Nat.le_refl _) v3
theorem lt_b {i n : Nat} (h : i < n) : decide ((i : Int) < (n : Int)) = true := by simp; omega
theorem lt_i {i n : Nat} (h : i < n) : (i : Int) < (n : Int) := by omega
theorem nlt_b (i : Nat) : decide ((i : Int) < (i : Int)) = false := by simp
theorem eq_b (z : Int) : (z == z) = true := by simp
theorem ne_b {z t : Int} (h : z ≠ t) : (z == t) = false := by simpa using h
set_option maxRecDepth 20000 in
set_option maxHeartbeats 4000000 in
theorem p15' (w : World) (A X Y : Option Addr) (ln lx ly ca cx cy : Nat) (xa xp xs xq ya yp ys yq la lp ls lq : Nat → Int) (St : Nat → Nat → Nat → Prop) (hA : RdF w A ln la lp ls lq) (hX : RdF w X lx xa xp xs xq) (hY : RdF w Y ly ya yp ys yq) (hS : Steps lx ly ln xa xp xs xq ya yp ys yq la lp ls lq St) (hn : ln ≤ 9223372036854775807) (hnx : lx ≤ 9223372036854775807) (hny : ly ≤ 9223372036854775807) (t : Array Value) (ht : t.size = 197) (q13 : t[13]? = some (.slice A ln ca)) (q14 : t[14]? = some (.slice X lx cx)) (q15 : t[15]? = some (.slice Y ly cy)) (q17 : t[17]? = some (.int .i64 0)) (q18 : t[18]? = some (.int .i64 0)) : (kC 15).wp Try.prog (fun e a w' => e = .normal ∧ R15 X Y lx ly cx cy a.tmps) ⟨t, []⟩ w := by
  obtain ⟨u, hu, e⟩ := litu t ht
  rw [uat hu q13, uat hu q14, uat hu q15, uat hu q17, uat hu q18] at e
  clear hu ht q13 q14 q15 q17 q18
  subst e
  rw [show kC 15 = Co.sL (Co.sR (Co.sR (Co.sR (Co.sR (Co.sR (Co.sR (Co.sR (Co.sR (Co.sR (Co.sR (Co.sR (Co.sR (Co.sR (Co.sR (Co.sR ((Try.f4.body).getD .skip)))))))))))))))) by kernel_rfl]
  simp only [Try.f4, Co.sL, Co.sR, Option.getD]
  have HA := hide hA
  have HX := hide hX
  have HY := hide hY
  have HS := hide hS
  clear hA hX hY hS
  go_wp2_with fail
  go_loopw [17, 18, 19] (fun v1 v2 v3 wr => ∃ i k n : Nat, v1 = .int .i64 i ∧ v2 = .int .i64 k ∧ v3 = .int .i64 n ∧ n ≤ ln ∧ Hid (St n i k) ∧ Hid (Below w.heap.size w wr)) (fun _ _ v3 _ => ln - (intOf v3).toNat)
  case atStart => exact ⟨0, 0, 0, rfl, rfl, rfl, by omega, hide HS.out.start, hide (Below.refl _ _)⟩
  case round =>
    obtain ⟨i, k, n, rfl, rfl, rfl, hj, HST0, HL⟩ := hrel
    obtain ⟨hix, hky⟩ := HS.out.le n i k HST0.out
    by_cases hlt : n < ln
    · have e1 : decide (n < ln) = true := by simpa using hlt
      have e1' : decide ((n : Int) < (ln : Int)) = true := by simp; omega
      have hji : (n : Int) < (ln : Int) := by omega
      have hj0 : (0 : Int) ≤ (n : Int) := by omega
      have hi0 : (0 : Int) ≤ (i : Int) := by omega
      have hk0 : (0 : Int) ≤ (k : Int) := by omega
      go_wp2_with fail
      have HL1 := hide (HL.out.alloc HL.out.size (.cells #[.int .i64 0, .int .i64 0, .int .i64 0, .int .i64 0] 44))
      have hF := Bk.new wr 44 #[.int .i64 0, .int .i64 0, .int .i64 0, .int .i64 0]
      have hws := HL.out.size
      clear HL
      generalize wr.alloc (.cells #[.int .i64 0, .int .i64 0, .int .i64 0, .int .i64 0] 44) = w1 at hF HL1 ⊢
      generalize wr.heap.size = f at hF hws ⊢
      have hN := now HA.out HX.out HY.out HS.out hws HL1.out hlt HST0.out
      clear HA HX HY HS HST0
      cases hN

      case xN ba oa bx ox z0 z1 z2 z3 hA lA fA hi hX lX fX hk hs =>
        subst hA
        have HST := hide hs
        clear hs
        subst hX
        have d1 := lt_b hi
        have d1' := lt_i hi
        subst hk
        have d2 := nlt_b k
        have q1 := eq_b z0
        have ⟨a0, a1, a2, a3⟩ := fA; have ⟨x0, x1, x2, x3⟩ := fX; have GA := hide fA; have GX := hide fX; clear fA fX; have ⟨f0, f1, f2, f3, v0, v1, v2, v3⟩ := at4 hF
        go_quiet (fail)
        go_wp2_with fail
        go_quiet (fail)
        go_wp2_with fail
        refine wp_put4 hF fun w2 hF2 hB2 => ?_
        have HL2 := hide (HL1.out.trans (hB2.mono hws)); clear a0 a1 a2 a3 x0 x1 x2 x3 f0 f1 f2 f3 v0 v1 v2 v3; have fA := GA.out.below hB2 lA; clear GA; have fX := GX.out.below hB2 lX; clear GX; clear hB2 hF HL1
        have ⟨a0, a1, a2, a3⟩ := fA; have ⟨x0, x1, x2, x3⟩ := fX; have GA := hide fA; have GX := hide fX; clear fA fX; have ⟨f0, f1, f2, f3, v0, v1, v2, v3⟩ := at4 hF2
        go_quiet (fail)
        go_wp2_with fail
        go_roundw
        case rel => exact ⟨i + 1, k, n + 1, by go_num, by go_num, by go_num, by omega, HST, hide (below_drewN HL2.out _)⟩
        case measure => simp [intOf]; omega
      case xY ba oa bx ox bY oY z0 z1 z2 z3 t0 t1 t2 t3 hA lA fA hi hX lX fX hk hY lY fY hne hs =>
        subst hA
        have HST := hide hs
        clear hs
        subst hX
        have d1 := lt_b hi
        have d1' := lt_i hi
        subst hY
        have d2 := lt_b hk
        have d2' := lt_i hk
        have q1 := eq_b z0
        have q2 := ne_b hne
        have ⟨a0, a1, a2, a3⟩ := fA; have ⟨x0, x1, x2, x3⟩ := fX; have ⟨y0, y1, y2, y3⟩ := fY; have GA := hide fA; have GX := hide fX; have GY := hide fY; clear fA fX fY; have ⟨f0, f1, f2, f3, v0, v1, v2, v3⟩ := at4 hF
        go_quiet (fail)
        go_wp2_with fail
        go_quiet (fail)
        go_wp2_with fail
        refine wp_put4 hF fun w2 hF2 hB2 => ?_
        have HL2 := hide (HL1.out.trans (hB2.mono hws)); clear a0 a1 a2 a3 x0 x1 x2 x3 y0 y1 y2 y3 f0 f1 f2 f3 v0 v1 v2 v3; have fA := GA.out.below hB2 lA; clear GA; have fX := GX.out.below hB2 lX; clear GX; have fY := GY.out.below hB2 lY; clear GY; clear hB2 hF HL1
        have ⟨a0, a1, a2, a3⟩ := fA; have ⟨x0, x1, x2, x3⟩ := fX; have ⟨y0, y1, y2, y3⟩ := fY; have GA := hide fA; have GX := hide fX; have GY := hide fY; clear fA fX fY; have ⟨f0, f1, f2, f3, v0, v1, v2, v3⟩ := at4 hF2
        go_quiet (fail)
        go_wp2_with fail
        go_roundw
        case rel => exact ⟨i + 1, k, n + 1, by go_num, by go_num, by go_num, by omega, HST, hide (below_drewN HL2.out _)⟩
        case measure => simp [intOf]; omega
      case yN ba oa bY oY t0 t1 t2 t3 hA lA fA hi hk hY lY fY hs =>
        subst hA
        have HST := hide hs
        clear hs
        subst hi
        have d1 := nlt_b i
        subst hY
        have d2 := lt_b hk
        have d2' := lt_i hk
        have q2 := eq_b t0
        have ⟨a0, a1, a2, a3⟩ := fA; have ⟨y0, y1, y2, y3⟩ := fY; have GA := hide fA; have GY := hide fY; clear fA fY; have ⟨f0, f1, f2, f3, v0, v1, v2, v3⟩ := at4 hF
        go_quiet (fail)
        go_wp2_with fail
        go_quiet (fail)
        go_wp2_with fail
        go_quiet (fail)
        go_wp2_with fail
        refine wp_put4 hF fun w2 hF2 hB2 => ?_
        have HL2 := hide (HL1.out.trans (hB2.mono hws)); clear a0 a1 a2 a3 y0 y1 y2 y3 f0 f1 f2 f3 v0 v1 v2 v3; have fA := GA.out.below hB2 lA; clear GA; have fY := GY.out.below hB2 lY; clear GY; clear hB2 hF HL1
        have ⟨a0, a1, a2, a3⟩ := fA; have ⟨y0, y1, y2, y3⟩ := fY; have GA := hide fA; have GY := hide fY; clear fA fY; have ⟨f0, f1, f2, f3, v0, v1, v2, v3⟩ := at4 hF2
        go_quiet (fail)
        go_wp2_with fail
        go_roundw
        case rel => exact ⟨i, k + 1, n + 1, by go_num, by go_num, by go_num, by omega, HST, hide (below_drewN HL2.out _)⟩
        case measure => simp [intOf]; omega
      case yX ba oa bx ox bY oY z0 z1 z2 z3 t0 t1 t2 t3 hA lA fA hi hX lX fX hk hY lY fY hne hs =>
        subst hA
        have HST := hide hs
        clear hs
        subst hX
        have d1 := lt_b hi
        have d1' := lt_i hi
        subst hY
        have d2 := lt_b hk
        have d2' := lt_i hk
        have q1 := ne_b hne
        have q2 := eq_b t0
        have ⟨a0, a1, a2, a3⟩ := fA; have ⟨x0, x1, x2, x3⟩ := fX; have ⟨y0, y1, y2, y3⟩ := fY; have GA := hide fA; have GX := hide fX; have GY := hide fY; clear fA fX fY; have ⟨f0, f1, f2, f3, v0, v1, v2, v3⟩ := at4 hF
        go_quiet (fail)
        go_wp2_with fail
        go_quiet (fail)
        go_wp2_with fail
        go_quiet (fail)
        go_wp2_with fail
        refine wp_put4 hF fun w2 hF2 hB2 => ?_
        have HL2 := hide (HL1.out.trans (hB2.mono hws)); clear a0 a1 a2 a3 x0 x1 x2 x3 y0 y1 y2 y3 f0 f1 f2 f3 v0 v1 v2 v3; have fA := GA.out.below hB2 lA; clear GA; have fX := GX.out.below hB2 lX; clear GX; have fY := GY.out.below hB2 lY; clear GY; clear hB2 hF HL1
        have ⟨a0, a1, a2, a3⟩ := fA; have ⟨x0, x1, x2, x3⟩ := fX; have ⟨y0, y1, y2, y3⟩ := fY; have GA := hide fA; have GX := hide fX; have GY := hide fY; clear fA fX fY; have ⟨f0, f1, f2, f3, v0, v1, v2, v3⟩ := at4 hF2
        go_quiet (fail)
        go_wp2_with fail
        go_roundw
        case rel => exact ⟨i, k + 1, n + 1, by go_num, by go_num, by go_num, by omega, HST, hide (below_drewN HL2.out _)⟩
        case measure => simp [intOf]; omega
      case yy ba oa bx ox bY oY z0 z1 z2 z3 t1 t2 t3 hA lA fA hi hX lX fX hk hY lY fY hge hs =>
        subst hA
        have HST := hide hs
        clear hs
        subst hX
        have d1 := lt_b hi
        have d1' := lt_i hi
        subst hY
        have d2 := lt_b hk
        have d2' := lt_i hk
        have q1 := eq_b z0
        have q2 := eq_b z0
        have q3 : decide (z2 ≤ t2) = true := by simp; omega
        have ⟨a0, a1, a2, a3⟩ := fA; have ⟨x0, x1, x2, x3⟩ := fX; have ⟨y0, y1, y2, y3⟩ := fY; have GA := hide fA; have GX := hide fX; have GY := hide fY; clear fA fX fY; have ⟨f0, f1, f2, f3, v0, v1, v2, v3⟩ := at4 hF
        go_quiet (fail)
        go_wp2_with fail
        go_quiet (fail)
        go_wp2_with fail
        refine wp_put4 hF fun w2 hF2 hB2 => ?_
        have HL2 := hide (HL1.out.trans (hB2.mono hws)); clear a0 a1 a2 a3 x0 x1 x2 x3 y0 y1 y2 y3 f0 f1 f2 f3 v0 v1 v2 v3; have fA := GA.out.below hB2 lA; clear GA; have fX := GX.out.below hB2 lX; clear GX; have fY := GY.out.below hB2 lY; clear GY; clear hB2 hF HL1
        have ⟨a0, a1, a2, a3⟩ := fA; have ⟨x0, x1, x2, x3⟩ := fX; have ⟨y0, y1, y2, y3⟩ := fY; have GA := hide fA; have GX := hide fX; have GY := hide fY; clear fA fX fY; have ⟨f0, f1, f2, f3, v0, v1, v2, v3⟩ := at4 hF2
        go_quiet (fail)
        go_wp2_with fail
        refine wp_put4 hF2 fun w3 hF3 hB3 => ?_
        have HL3 := hide (HL2.out.trans (hB3.mono hws)); clear a0 a1 a2 a3 x0 x1 x2 x3 y0 y1 y2 y3 f0 f1 f2 f3 v0 v1 v2 v3; have fA := GA.out.below hB3 lA; clear GA; have fX := GX.out.below hB3 lX; clear GX; have fY := GY.out.below hB3 lY; clear GY; clear hB3 hF2 HL2
        have ⟨a0, a1, a2, a3⟩ := fA; have ⟨x0, x1, x2, x3⟩ := fX; have ⟨y0, y1, y2, y3⟩ := fY; have GA := hide fA; have GX := hide fX; have GY := hide fY; clear fA fX fY; have ⟨f0, f1, f2, f3, v0, v1, v2, v3⟩ := at4 hF3
        go_quiet (fail)
        go_wp2_with fail
        go_roundw
        case rel => exact ⟨i + 1, k + 1, n + 1, by go_num, by go_num, by go_num, by omega, HST, hide (below_drewN HL3.out _)⟩
        case measure => simp [intOf]; omega
      case xx ba oa bx ox bY oY z0 z1 z2 z3 t1 t2 t3 hA lA fA hi hX lX fX hk hY lY fY hge hs =>
        subst hA
        have HST := hide hs
        clear hs
        subst hX
        have d1 := lt_b hi
        have d1' := lt_i hi
        subst hY
        have d2 := lt_b hk
        have d2' := lt_i hk
        have q1 := eq_b z0
        have q2 := eq_b z0
        have q3 : decide (z2 ≤ t2) = false := by simp; omega
        have ⟨a0, a1, a2, a3⟩ := fA; have ⟨x0, x1, x2, x3⟩ := fX; have ⟨y0, y1, y2, y3⟩ := fY; have GA := hide fA; have GX := hide fX; have GY := hide fY; clear fA fX fY; have ⟨f0, f1, f2, f3, v0, v1, v2, v3⟩ := at4 hF
        go_quiet (fail)
        go_wp2_with fail
        go_quiet (fail)
        go_wp2_with fail
        refine wp_put4 hF fun w2 hF2 hB2 => ?_
        have HL2 := hide (HL1.out.trans (hB2.mono hws)); clear a0 a1 a2 a3 x0 x1 x2 x3 y0 y1 y2 y3 f0 f1 f2 f3 v0 v1 v2 v3; have fA := GA.out.below hB2 lA; clear GA; have fX := GX.out.below hB2 lX; clear GX; have fY := GY.out.below hB2 lY; clear GY; clear hB2 hF HL1
        have ⟨a0, a1, a2, a3⟩ := fA; have ⟨x0, x1, x2, x3⟩ := fX; have ⟨y0, y1, y2, y3⟩ := fY; have GA := hide fA; have GX := hide fX; have GY := hide fY; clear fA fX fY; have ⟨f0, f1, f2, f3, v0, v1, v2, v3⟩ := at4 hF2
        go_quiet (fail)
        go_wp2_with fail
        go_quiet (fail)
        go_wp2_with fail
        go_roundw
        case rel => exact ⟨i + 1, k + 1, n + 1, by go_num, by go_num, by go_num, by omega, HST, hide (below_drewN HL2.out _)⟩
        case measure => simp [intOf]; omega
    · obtain rfl : n = ln := by omega
      have e1 : decide (n < n) = false := by simp
      have e1' : decide ((n : Int) < (n : Int)) = false := by simp
      obtain ⟨hx, hy⟩ := HS.out.done i k HST0.out
      subst hx
      subst hy
      have d1 : decide ((i : Int) < (i : Int)) = false := by simp
      go_wp2_with fail
      exact ⟨rfl, rfl, rfl, rfl, rfl⟩
set_option maxRecDepth 20000 in
set_option maxHeartbeats 4000000 in
theorem p16' (w : World) (X Y : Option Addr) (lx ly cx cy : Nat) (t : Array Value) (ht : t.size = 197) (q14 : t[14]? = some (.slice X lx cx)) (q15 : t[15]? = some (.slice Y ly cy)) (q17 : t[17]? = some (.int .i64 lx)) (q18 : t[18]? = some (.int .i64 ly)) : (kE 16).wp Try.prog (fun e a w' => e = .ret ∧ RX 197 6 (.bool true) a.tmps w'.heap) ⟨t, []⟩ w := by
  obtain ⟨u, hu, e⟩ := litu t ht
  rw [uat hu q14, uat hu q15, uat hu q17, uat hu q18] at e
  clear hu ht q14 q15 q17 q18
  subst e
  rw [show kE 16 = (Co.sR (Co.sR (Co.sR (Co.sR (Co.sR (Co.sR (Co.sR (Co.sR (Co.sR (Co.sR (Co.sR (Co.sR (Co.sR (Co.sR (Co.sR (Co.sR ((Try.f4.body).getD .skip))))))))))))))))) by kernel_rfl]
  simp only [Try.f4, Co.sL, Co.sR, Option.getD]
  have e1 : ((lx : Int) == (lx : Int)) = true := by simp
  have e2 : ((ly : Int) == (ly : Int)) = true := by simp
  go_wp2_with fail
  exact ⟨rfl, rfl⟩
end Go.Proofs.Ytlaipigilikmbaa.JoW
