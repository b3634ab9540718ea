/- The walks of the document's chip: GeometryFault, Read, NewChip. Printed by wip/mkrchipr.py. -/
import Derived.Test.YtbldjiofchaigaaDoorRChipE
import Derived.Laws.AppendOwnNone
import Derived.Deep.DeepCutAuto
set_option linter.unusedVariables false
namespace Go.Proofs.YtbldjiofchaigaaDoor.ChipW
open Go.RowKit ChipP CopyW ToldW

set_option maxRecDepth 20000 in
set_option maxHeartbeats 4000000 in
theorem geo_bad (w : World) (d b p y : Int) (hb : badG d b p y) (t1 : -9223372036854775808 ≤ y) (t2 : y ≤ 9223372036854775807) :
    Calls Tryd.prog 20 #[geoV d b p y] w fun e w' => e = .returned (.int .i64 1) ∧ Below w.heap.size w w' := by
  unfold geoV
  have K := Bk.new w 23 #[.int .i64 d, .int .i64 b, .int .i64 p, .int .i64 y]
  have k0 := K.at_ (i := 0) (u := .int .i64 d) rfl
  have k1 := K.at_ (i := 1) (u := .int .i64 b) rfl
  have k2 := K.at_ (i := 2) (u := .int .i64 p) rfl
  have k3 := K.at_ (i := 3) (u := .int .i64 y) rfl
  clear K
  have hbad := nine_bad hb
  clear hb
  rcases hbad with hbad | hbad | hbad | hbad | hbad | hbad | hbad | hbad | hbad
  · have d1 : decide (d < 1) = true := decide_eq_true (by omega)
    clear hbad
    go_enter Tryd.func20, Tryd.ntmps20
    go_wp2_with fail
    go_ret
    exact ⟨rfl, (Below.refl _ _).alloc (Nat.le_refl _) _⟩
  · have d1 : decide (d < 1) = false := decide_eq_false (by omega)
    have d2 : decide (d > 4) = true := decide_eq_true (by omega)
    clear hbad
    go_enter Tryd.func20, Tryd.ntmps20
    go_wp2_with fail
    go_ret
    exact ⟨rfl, (Below.refl _ _).alloc (Nat.le_refl _) _⟩
  · have d1 : decide (d < 1) = false := decide_eq_false (by omega)
    have d2 : decide (d > 4) = false := decide_eq_false (by omega)
    have d3 : decide (b < 1) = true := decide_eq_true (by omega)
    clear hbad
    go_enter Tryd.func20, Tryd.ntmps20
    go_wp2_with fail
    go_ret
    exact ⟨rfl, (Below.refl _ _).alloc (Nat.le_refl _) _⟩
  · have d1 : decide (d < 1) = false := decide_eq_false (by omega)
    have d2 : decide (d > 4) = false := decide_eq_false (by omega)
    have d3 : decide (b < 1) = false := decide_eq_false (by omega)
    have d4 : decide (b > 16) = true := decide_eq_true (by omega)
    clear hbad
    go_enter Tryd.func20, Tryd.ntmps20
    go_wp2_with fail
    go_ret
    exact ⟨rfl, (Below.refl _ _).alloc (Nat.le_refl _) _⟩
  · have d1 : decide (d < 1) = false := decide_eq_false (by omega)
    have d2 : decide (d > 4) = false := decide_eq_false (by omega)
    have d3 : decide (b < 1) = false := decide_eq_false (by omega)
    have d4 : decide (b > 16) = false := decide_eq_false (by omega)
    have d5 : decide (p < 1) = true := decide_eq_true (by omega)
    clear hbad
    go_enter Tryd.func20, Tryd.ntmps20
    go_wp2_with fail
    go_ret
    exact ⟨rfl, (Below.refl _ _).alloc (Nat.le_refl _) _⟩
  · have d1 : decide (d < 1) = false := decide_eq_false (by omega)
    have d2 : decide (d > 4) = false := decide_eq_false (by omega)
    have d3 : decide (b < 1) = false := decide_eq_false (by omega)
    have d4 : decide (b > 16) = false := decide_eq_false (by omega)
    have d5 : decide (p < 1) = false := decide_eq_false (by omega)
    have d6 : decide (p > 16) = true := decide_eq_true (by omega)
    clear hbad
    go_enter Tryd.func20, Tryd.ntmps20
    go_wp2_with fail
    go_ret
    exact ⟨rfl, (Below.refl _ _).alloc (Nat.le_refl _) _⟩
  · have d1 : decide (d < 1) = false := decide_eq_false (by omega)
    have d2 : decide (d > 4) = false := decide_eq_false (by omega)
    have d3 : decide (b < 1) = false := decide_eq_false (by omega)
    have d4 : decide (b > 16) = false := decide_eq_false (by omega)
    have d5 : decide (p < 1) = false := decide_eq_false (by omega)
    have d6 : decide (p > 16) = false := decide_eq_false (by omega)
    have d7 : decide (y < 8) = true := decide_eq_true (by omega)
    clear hbad
    go_enter Tryd.func20, Tryd.ntmps20
    go_wp2_with fail
    go_ret
    exact ⟨rfl, (Below.refl _ _).alloc (Nat.le_refl _) _⟩
  · have d1 : decide (d < 1) = false := decide_eq_false (by omega)
    have d2 : decide (d > 4) = false := decide_eq_false (by omega)
    have d3 : decide (b < 1) = false := decide_eq_false (by omega)
    have d4 : decide (b > 16) = false := decide_eq_false (by omega)
    have d5 : decide (p < 1) = false := decide_eq_false (by omega)
    have d6 : decide (p > 16) = false := decide_eq_false (by omega)
    have d7 : decide (y < 8) = false := decide_eq_false (by omega)
    have d8 : decide (y > 256) = true := decide_eq_true (by omega)
    clear hbad
    go_enter Tryd.func20, Tryd.ntmps20
    go_wp2_with fail
    go_ret
    exact ⟨rfl, (Below.refl _ _).alloc (Nat.le_refl _) _⟩
  · have d1 : decide (d < 1) = false := decide_eq_false (by omega)
    have d2 : decide (d > 4) = false := decide_eq_false (by omega)
    have d3 : decide (b < 1) = false := decide_eq_false (by omega)
    have d4 : decide (b > 16) = false := decide_eq_false (by omega)
    have d5 : decide (p < 1) = false := decide_eq_false (by omega)
    have d6 : decide (p > 16) = false := decide_eq_false (by omega)
    have d7 : decide (y < 8) = false := decide_eq_false (by omega)
    have d8 : decide (y > 256) = false := decide_eq_false (by omega)
    have d9 : ¬ y % 8 = 0 := by omega
    have d9' : (y.tmod 8 != 0) = true := by rw [Int.tmod_eq_emod_of_nonneg (by omega)]; simpa using d9
    clear hbad
    go_enter Tryd.func20, Tryd.ntmps20
    go_wp2_with fail
    go_ret
    exact ⟨rfl, (Below.refl _ _).alloc (Nat.le_refl _) _⟩
set_option maxRecDepth 20000 in
set_option maxHeartbeats 4000000 in
theorem geoR_ok (w : World) (d b p y : Int) (hb : ¬ badG d b p y) :
    Calls Tryd.prog 20 #[geoV d b p y] w fun e w' => e = .returned (.int .i64 0) ∧ Below w.heap.size w w' := by
  unfold geoV
  have K := Bk.new w 23 #[.int .i64 d, .int .i64 b, .int .i64 p, .int .i64 y]
  have k0 := K.at_ (i := 0) (u := .int .i64 d) rfl
  have k1 := K.at_ (i := 1) (u := .int .i64 b) rfl
  have k2 := K.at_ (i := 2) (u := .int .i64 p) rfl
  have k3 := K.at_ (i := 3) (u := .int .i64 y) rfl
  clear K
  unfold badG at hb
  have d1 : decide (d < 1) = false := decide_eq_false (by omega)
  have d2 : decide (d > 4) = false := decide_eq_false (by omega)
  have d3 : decide (b < 1) = false := decide_eq_false (by omega)
  have d4 : decide (b > 16) = false := decide_eq_false (by omega)
  have d5 : decide (p < 1) = false := decide_eq_false (by omega)
  have d6 : decide (p > 16) = false := decide_eq_false (by omega)
  have d7 : decide (y < 8) = false := decide_eq_false (by omega)
  have d8 : decide (y > 256) = false := decide_eq_false (by omega)
  have d9 : y % 8 = 0 := by omega
  have d9' : (y.tmod 8 != 0) = false := by rw [Int.tmod_eq_emod_of_nonneg (by omega)]; simpa using d9
  have l1 : 8 ≤ y := by omega
  have l2 : y ≤ 256 := by omega
  clear hb
  go_enter Tryd.func20, Tryd.ntmps20
  go_wp2_with fail
  go_ret
  exact ⟨rfl, (Below.refl _ _).alloc (Nat.le_refl _) _⟩

/-- A page's bytes in the list of all. -/
theorem RF.rd {w : World} {g : Geo} {r ga gn gw gd cap : Nat} {s : St} (h : RAt w g r ga gn gw gd cap s) {k i : Nat} (hk : k < g.n) (hi : i < g.p) (hl : ((s.blk k).pg i).length = g.y) : Rd w (some ⟨ga, ad g k i 0, none⟩) (u8v ((s.blk k).pg i)) := by
  refine .inr ⟨ga, ad g k i 0, rfl, fun j u hu => ?_⟩
  have hj : j < g.y := by
    have := (List.getElem?_eq_some_iff.1 hu).1
    rw [u8v_length, hl] at this
    exact this
  have h1 := (RF.all_ h hk hi hj).1
  rw [show ad g k i 0 + j = ad g k i j from by unfold ad; omega]
  rw [h1]
  have h2 := u8v_get ((s.blk k).pg i) j (by omega)
  rw [hu] at h2
  injection h2 with h2
  rw [h2]
  unfold byt
  simp [List.getD_eq_getElem?_getD, hl, hj]
/-- What Read says. -/
def RRPost (w : World) (g : Geo) (ga cap : Nat) (s : St) (die k page : Int) (e : Ending) (w' : World) : Prop :=
  (∃ d, w' = w.drewN d) ∧ ((rdF g s die k page ≠ 0 ∧ e = .returned (.tuple #[.slice none 0 0, .int .i64 (rdF g s die k page)])) ∨
    (rdF g s die k page = 0 ∧ ix g die k < g.n ∧ page.toNat < g.p ∧ e = .returned (.tuple #[.slice (some ⟨ga, ad g (ix g die k) page.toNat 0, none⟩) g.y (cap - ad g (ix g die k) page.toNat 0), .int .i64 0])))
set_option maxRecDepth 20000 in
set_option maxHeartbeats 4000000 in
theorem rread_any {w : World} {g : Geo} {r ga gn gw gd cap : Nat} {s : St} (h : RAt w g r ga gn gw gd cap s) (hg : g.Ok) (die k page : Int) (hcap : cap ≤ 9223372036854775807) :
    Calls Tryd.prog 29 #[ptr r, .int .i64 die, .int .i64 k, .int .i64 page] w (RRPost w g ga cap s die k page) := by
  have HFA := hide (rfault_any h hg die k)
  have HH := hide h
  have hp16 := hg.p16
  have hy8 := hg.y8
  have hy256 := hg.y256
  unfold ptr at HFA ⊢
  clear h
  go_enter Tryd.func29, Tryd.ntmps29
  go_wp2_with fail
  refine HFA.out.mono ?_
  rintro e w' ⟨rfl, ⟨hf, rfl⟩ | ⟨hf, rfl⟩⟩
  · have HX : Hid (rdF g s die k page = atF g s die k) := hide (by unfold rdF; rw [if_pos hf])
    have HF := hide hf
    have d0 : (atF g s die k != 0) = true := by simpa using hf
    clear hf HFA
    go_wp2_with fail
    go_ret2
    exact ⟨⟨0, rfl⟩, .inl ⟨by rw [HX.out]; exact HF.out, by rw [HX.out]; rfl⟩⟩
  · have hz := at_zero hf
    have hlt := ix_lt hz.2.1 hz.2.2.1 hz.2.2.2.1 hz.2.2.2.2
    have HF := hide hf
    have c2 := RF.b2 HH.out
    have c3 := RF.b3 HH.out
    have c4 := RF.b4 HH.out
    obtain ⟨M, hM⟩ : ∃ M, M = ix g die k := ⟨_, rfl⟩
    have HM := hide hM
    have HMN : Hid (M < g.n) := hide (hM ▸ hlt)
    rw [← hM]
    clear hz hf HFA hlt hM
    by_cases hb2 : page < 0 ∨ (g.p : Int) ≤ page
    · have HX : Hid (rdF g s die k page = 1) := hide (by unfold rdF; rw [if_neg (fun h => h HF.out), if_pos hb2])
      by_cases h0 : page < 0
      · have d1 : decide (page < 0) = true := decide_eq_true h0
        clear hb2 h0
        go_wp2_with fail
        go_ret2
        exact ⟨⟨0, rfl⟩, .inl ⟨by rw [HX.out]; decide, by rw [HX.out]; rfl⟩⟩
      · have d1 : decide (page < 0) = false := decide_eq_false h0
        have d2 : decide (page ≥ (g.p : Int)) = true := decide_eq_true (by omega)
        clear hb2 h0
        go_wp2_with fail
        go_ret2
        exact ⟨⟨0, rfl⟩, .inl ⟨by rw [HX.out]; decide, by rw [HX.out]; rfl⟩⟩
    · have HX : Hid (rdF g s die k page = 0) := hide (by unfold rdF; rw [if_neg (fun h => h HF.out), if_neg hb2])
      obtain ⟨P, rfl⟩ : ∃ P : Nat, page = P := ⟨page.toNat, by omega⟩
      have hP : P < g.p := by omega
      have d1 : decide ((P : Int) < 0) = false := decide_eq_false (by omega)
      have d2 : decide (g.p ≤ P) = false := decide_eq_false (by omega)
      have d2' : decide ((P : Int) ≥ (g.p : Int)) = false := decide_eq_false (by omega)
      obtain ⟨m1, hm1⟩ : ∃ m1, m1 = M * g.p := ⟨_, rfl⟩
      obtain ⟨m2, hm2⟩ : ∃ m2, m2 = m1 + P := ⟨_, rfl⟩
      obtain ⟨m3, hm3⟩ : ∃ m3, m3 = m2 * g.y := ⟨_, rfl⟩
      have hsz := size_le hg
      have had := ad_lt (j := g.y - 1) HMN.out hP (by omega)
      have HAD : Hid (∀ j, ad g M P j = m3 + j) := hide (fun j => by unfold ad; rw [hm3, hm2, hm1])
      rw [HAD.out] at had
      have hm3b : m3 + g.y ≤ g.n * g.p * g.y := by omega
      have hcp : g.n * g.p * g.y ≤ cap := RF.hc HH.out
      have hm1b : m1 ≤ 1024 := by
        have h1 := Nat.mul_le_mul (Nat.le_of_lt (Nat.lt_of_lt_of_le HMN.out hg.n64)) hg.p16
        omega
      have q1 : IntKind.i64.wrap ((M : Int) * (g.p : Int)) = (m1 : Int) := by rw [← Int.natCast_mul, ← hm1, IntKind.wrap_i64]; omega
      have q2 : IntKind.i64.wrap ((m1 : Int) + (P : Int)) = (m2 : Int) := by rw [hm2, IntKind.wrap_i64]; omega
      have q3 : IntKind.i64.wrap ((m2 : Int) * (g.y : Int)) = (m3 : Int) := by rw [← Int.natCast_mul, ← hm3, IntKind.wrap_i64]; omega
      obtain ⟨N, hN⟩ : ∃ N, N = g.n * g.p * g.y := ⟨_, rfl⟩
      rw [← hN] at hm3b hsz hcp c4
      have q4 : IntKind.i64.wrap ((m3 : Int) + (g.y : Int)) = (m3 : Int) + (g.y : Int) := by rw [IntKind.wrap_i64]; omega
      clear hb2 hm1 hm2 hm3 had hN
      go_wp2_with fail
      go_quiet (fail)
      go_wp2_with fail
      have s1 : (0 : Int) ≤ (m3 : Int) := by omega
      have s2 : (m3 : Int) ≤ (m3 : Int) + (g.y : Int) := by omega
      have s3 : (m3 : Int) + (g.y : Int) ≤ (cap : Int) := by omega
      have s4 : ¬ cap = m3 := by omega
      have s5 : ((m3 : Int) + (g.y : Int)).toNat = m3 + g.y := by omega
      go_quiet (fail)
      go_wp2_with fail
      go_ret2
      refine ⟨⟨_, World.drewN_drewN _ _ _⟩, .inr ⟨HX.out, by rw [← HM.out]; exact HMN.out, hP, ?_⟩⟩
      rw [← HM.out, Int.toNat_natCast, HAD.out, Nat.add_zero]
      rfl

theorem bool_info : (Tryd.prog.info? 4).map (fun i => (i.zero, i.size, i.bytes)) = some (some (.bool false), 1, 1) := by kernel_rfl
theorem int_info : (Tryd.prog.info? 3).map (fun i => (i.zero, i.size, i.bytes)) = some (some (.int .i64 0), 1, 8) := by kernel_rfl
theorem made_one (v : Value) (n : Nat) : madeCells #[v] n = rowF n (fun _ => v) := by
  unfold madeCells rowF
  apply Array.ext'
  rw [Array.toList_map, Array.toList_range]
  refine List.map_congr_left fun j _ => ?_
  simp [Nat.mod_one]
theorem make_ints (n : Nat) (hn : n ≤ 64) (w : World) : (Instr.makeSlice 56 (.int .i64 (n : Int)) (.int .i64 (n : Int))).run Tryd.prog w = .ok (.slice (some ⟨w.heap.size, 0, none⟩) n n) (w.alloc (.cells (rowF n (fun _ => .int .i64 0)) 3)) := by
  obtain ⟨i, hi, hz, hs, hb⟩ := info3 int_info
  rw [run_make (P := Tryd.prog) w 56 3 i _ Tryd.underlying56 hi hz .i64 .i64 n n (by omega) (by omega) (by rw [hb]; omega) (by omega), hs, Int.toNat_natCast, ← made_one, Nat.mul_one]
  rfl
theorem make_bools (n : Nat) (hn : n ≤ 64) (w : World) : (Instr.makeSlice 57 (.int .i64 (n : Int)) (.int .i64 (n : Int))).run Tryd.prog w = .ok (.slice (some ⟨w.heap.size, 0, none⟩) n n) (w.alloc (.cells (rowF n (fun _ => .bool false)) 4)) := by
  obtain ⟨i, hi, hz, hs, hb⟩ := info3 bool_info
  rw [run_make (P := Tryd.prog) w 57 4 i _ Tryd.underlying57 hi hz .i64 .i64 n n (by omega) (by omega) (by rw [hb]; omega) (by omega), hs, Int.toNat_natCast, ← made_one, Nat.mul_one]
  rfl
/-- A chip in the making: m bytes are there. -/
structure RN (w W : World) (g : Geo) (r gn gw gd : Nat) (v : Value) (m : Nat) : Prop where
  box : Bk W r 59 #[.int .i64 g.d, .int .i64 g.b, .int .i64 g.p, .int .i64 g.y, v, .slice (some ⟨gn, 0, none⟩) g.n g.n, .slice (some ⟨gw, 0, none⟩) g.n g.n, .slice (some ⟨gd, 0, none⟩) g.n g.n, .bool false]
  all : W.ownsRow w.heap.size 5 1 v m (u8v (List.replicate m 255))
  hn : Bk W gn 3 (rowF g.n (fun _ => .int .i64 0))
  hw : Bk W gw 3 (rowF g.n (fun _ => .int .i64 0))
  hd : Bk W gd 4 (rowF g.n (fun _ => .bool false))
  ne : gn ≠ gw
  geo : Bk W w.heap.size 23 #[.int .i64 (g.d : Int), .int .i64 (g.b : Int), .int .i64 (g.p : Int), .int .i64 (g.y : Int)]
  low : Below w.heap.size w W
  r1 : w.heap.size ≤ r
  n1 : w.heap.size ≤ gn
  w1 : w.heap.size ≤ gw
  d1 : w.heap.size ≤ gd
theorem RN.drew {w W : World} {g : Geo} {r gn gw gd : Nat} {v : Value} {m : Nat} (h : RN w W g r gn gw gd v m) : RN w W.drew g r gn gw gd v m := { h with low := h.low.drew }
section
variable (w : World) (t : TypeId) (cs : Array Value) (o0 o1 o2 o3 o4 : Obj)
theorem k0_ : Bk (((((w.alloc (.cells cs t)).alloc o1).alloc o2).alloc o3).alloc o4) w.heap.size t cs := ((((Bk.new w t cs).alloc o1).alloc o2).alloc o3).alloc o4
theorem k1_ : Bk (((((w.alloc o0).alloc (.cells cs t)).alloc o2).alloc o3).alloc o4) (w.heap.size + 1) t cs := by
  have := (((Bk.new (w.alloc o0) t cs).alloc o2).alloc o3).alloc o4
  simpa using this
theorem k2_ : Bk (((((w.alloc o0).alloc o1).alloc (.cells cs t)).alloc o3).alloc o4) (w.heap.size + 2) t cs := by
  have := ((Bk.new ((w.alloc o0).alloc o1) t cs).alloc o3).alloc o4
  simpa using this
theorem k3_ : Bk (((((w.alloc o0).alloc o1).alloc o2).alloc (.cells cs t)).alloc o4) (w.heap.size + 3) t cs := by
  have := (Bk.new (((w.alloc o0).alloc o1).alloc o2) t cs).alloc o4
  simpa using this
theorem k4_ : Bk (((((w.alloc o0).alloc o1).alloc o2).alloc o3).alloc (.cells cs t)) (w.heap.size + 4) t cs := by
  have := Bk.new ((((w.alloc o0).alloc o1).alloc o2).alloc o3) t cs
  simpa using this
theorem kb_ : Below w.heap.size w (((((w.alloc o0).alloc o1).alloc o2).alloc o3).alloc o4) := (((((Below.refl _ _).alloc (Nat.le_refl _) _).alloc (by simp) _).alloc (by simp; omega) _).alloc (by simp; omega) _).alloc (by simp; omega) _
end
/-- What the struct's making leaves. -/
def MadeRC (w : World) (g : Geo) (v : Value) (wx : World) : Prop := ∃ r gn gw gd, v = ptr r ∧ RN w wx g r gn gw gd (.slice none 0 0) 0
set_option maxRecDepth 20000 in
set_option maxHeartbeats 4000000 in
theorem rnew_any (w : World) (g : Geo) (hg : g.Ok) :
    Calls Tryd.prog 21 #[geoV g.d g.b g.p g.y] w fun e w' => Below w.heap.size w w' ∧ ∃ r ga gn gw gd cap, e = .returned (ptr r) ∧ RAt w' g r ga gn gw gd cap (newS g) ∧ cap ≤ 9223372036854775807 ∧ ∀ j, RB r ga gn gw gd j → w.heap.size ≤ j := by
  unfold geoV
  have K := Bk.new w 23 #[.int .i64 (g.d : Int), .int .i64 (g.b : Int), .int .i64 (g.p : Int), .int .i64 (g.y : Int)]
  have k0 := K.at_ (i := 0) (u := .int .i64 (g.d : Int)) rfl
  have k1 := K.at_ (i := 1) (u := .int .i64 (g.b : Int)) rfl
  have k2 := K.at_ (i := 2) (u := .int .i64 (g.p : Int)) rfl
  have k3 := K.at_ (i := 3) (u := .int .i64 (g.y : Int)) rfl
  have HK := hide K
  clear K
  have hP16 := hg.p16
  have hY8 := hg.y8
  have hY256 := hg.y256
  have hN64 := hg.n64
  have q1 : IntKind.i64.wrap ((g.d : Int) * (g.b : Int)) = (g.n : Int) := by
    rw [← Int.natCast_mul, IntKind.wrap_i64]
    have : g.d * g.b = g.n := rfl
    rw [this]; omega
  have mk1 := make_ints g.n hN64
  have mk2 := make_bools g.n hN64
  go_enter Tryd.func21, Tryd.ntmps21
  go_wp2_with fail
  go_cut [4] (fun v wx => MadeRC w g v wx)
  case first =>
    go_region
    all_goals
      go_wp2_with fail
      go_meet
      first
        | exact ⟨w.heap.size + 4, w.heap.size + 1, w.heap.size + 2, w.heap.size + 3, rfl, { box := (k4_ w _ _ _ _ _ _).drew, all := World.ownsRow_nil _ _ _ _, hn := (k1_ w _ _ _ _ _ _).drew, hw := (k2_ w _ _ _ _ _ _).drew, hd := (k3_ w _ _ _ _ _ _).drew, ne := by omega, geo := (k0_ w _ _ _ _ _ _).drew, low := (kb_ w _ _ _ _ _).drew, r1 := by omega, n1 := by omega, w1 := by omega, d1 := by omega }⟩
        | exact ⟨w.heap.size + 4, w.heap.size + 1, w.heap.size + 3, w.heap.size + 2, rfl, { box := (k4_ w _ _ _ _ _ _).drew, all := World.ownsRow_nil _ _ _ _, hn := (k1_ w _ _ _ _ _ _).drew, hw := (k3_ w _ _ _ _ _ _).drew, hd := (k2_ w _ _ _ _ _ _).drew, ne := by omega, geo := (k0_ w _ _ _ _ _ _).drew, low := (kb_ w _ _ _ _ _).drew, r1 := by omega, n1 := by omega, w1 := by omega, d1 := by omega }⟩
        | exact ⟨w.heap.size + 4, w.heap.size + 2, w.heap.size + 1, w.heap.size + 3, rfl, { box := (k4_ w _ _ _ _ _ _).drew, all := World.ownsRow_nil _ _ _ _, hn := (k2_ w _ _ _ _ _ _).drew, hw := (k1_ w _ _ _ _ _ _).drew, hd := (k3_ w _ _ _ _ _ _).drew, ne := by omega, geo := (k0_ w _ _ _ _ _ _).drew, low := (kb_ w _ _ _ _ _).drew, r1 := by omega, n1 := by omega, w1 := by omega, d1 := by omega }⟩
        | exact ⟨w.heap.size + 4, w.heap.size + 2, w.heap.size + 3, w.heap.size + 1, rfl, { box := (k4_ w _ _ _ _ _ _).drew, all := World.ownsRow_nil _ _ _ _, hn := (k2_ w _ _ _ _ _ _).drew, hw := (k3_ w _ _ _ _ _ _).drew, hd := (k1_ w _ _ _ _ _ _).drew, ne := by omega, geo := (k0_ w _ _ _ _ _ _).drew, low := (kb_ w _ _ _ _ _).drew, r1 := by omega, n1 := by omega, w1 := by omega, d1 := by omega }⟩
        | exact ⟨w.heap.size + 4, w.heap.size + 3, w.heap.size + 1, w.heap.size + 2, rfl, { box := (k4_ w _ _ _ _ _ _).drew, all := World.ownsRow_nil _ _ _ _, hn := (k3_ w _ _ _ _ _ _).drew, hw := (k1_ w _ _ _ _ _ _).drew, hd := (k2_ w _ _ _ _ _ _).drew, ne := by omega, geo := (k0_ w _ _ _ _ _ _).drew, low := (kb_ w _ _ _ _ _).drew, r1 := by omega, n1 := by omega, w1 := by omega, d1 := by omega }⟩
        | exact ⟨w.heap.size + 4, w.heap.size + 3, w.heap.size + 2, w.heap.size + 1, rfl, { box := (k4_ w _ _ _ _ _ _).drew, all := World.ownsRow_nil _ _ _ _, hn := (k3_ w _ _ _ _ _ _).drew, hw := (k2_ w _ _ _ _ _ _).drew, hd := (k1_ w _ _ _ _ _ _).drew, ne := by omega, geo := (k0_ w _ _ _ _ _ _).drew, low := (kb_ w _ _ _ _ _).drew, r1 := by omega, n1 := by omega, w1 := by omega, d1 := by omega }⟩
  case rest =>
    obtain ⟨r, gn, gw, gd, rfl, hR⟩ := hcut
    have HRN := hide hR
    clear hR k0 k1 k2 k3 HK
    have hsz := size_le hg
    obtain ⟨np, hnp⟩ : ∃ np, np = g.n * g.p := ⟨_, rfl⟩
    obtain ⟨N, hN⟩ : ∃ N, N = np * g.y := ⟨_, rfl⟩
    rw [← hnp, ← hN] at hsz
    have hnpb : np ≤ 1024 := by
      have h1 := Nat.mul_le_mul hN64 hP16
      omega
    have HN : Hid (N = g.n * g.p * g.y) := hide (by rw [hN, hnp])
    have HN8 : Hid (0 < N) := hide (by
      rw [hN, hnp]
      exact Nat.mul_pos (Nat.mul_pos hg.n1 hg.p1) (by omega))
    have q2 : IntKind.i64.wrap ((g.n : Int) * (g.p : Int)) = (np : Int) := by rw [← Int.natCast_mul, ← hnp, IntKind.wrap_i64]; omega
    have q3 : IntKind.i64.wrap ((np : Int) * (g.y : Int)) = (N : Int) := by rw [← Int.natCast_mul, ← hN, IntKind.wrap_i64]; omega
    have q2' : wrap64 ((g.n : Int) * (g.p : Int)) = (np : Int) := by rw [← Int.natCast_mul, ← hnp]; unfold wrap64; omega
    have q3' : wrap64 ((np : Int) * (g.y : Int)) = (N : Int) := by rw [← Int.natCast_mul, ← hN]; unfold wrap64; omega
    clear hnp hN
    unfold ptr
    go_wp2_with fail
    go_loopw [5] (fun i W => ∃ (m : Nat) (A : Option Addr) (c : Nat), m ≤ N ∧ i = .int .i64 m ∧ Hid (RN w W g r gn gw gd (.slice A m c) m)) (fun i _ => N - (intOf i).toNat)
    case atStart => exact ⟨0, none, 0, by omega, rfl, HRN⟩
    case round =>
      obtain ⟨m, A, c, hm, rfl, HM⟩ := hrel
      have g2 := HM.out.geo.at_ (i := 2) (u := .int .i64 (g.p : Int)) rfl
      have g3 := HM.out.geo.at_ (i := 3) (u := .int .i64 (g.y : Int)) rfl
      by_cases hlt : m < N
      · have e1 : decide (m < N) = true := by simpa using hlt
        have e1' : decide ((m : Int) < (N : Int)) = true := by simp; omega
        have c4 := HM.out.box.at_ (i := 4) (u := .slice A m c) rfl
        have f4 := HM.out.box.free 4
        have HSZ : Hid (w.heap.size ≤ wr.heap.size) := hide HM.out.low.size
        obtain ⟨i0, hi0, hz0, hz1, hz2⟩ := info_parts u8_info
        go_wp2_with (first
          | (at_builtin
             refine wpList_append_rd _ rfl (.tmp 35) (.tmp 36) 33 rfl w.heap.size 5 i0 _ 1 Tryd.underlying33 hi0 hz0 hz1 hz2 rfl _ m (u8v (List.replicate m 255)) rfl (by exact own_below HM.out.all ((Below.refl _ _).alloc (Nat.le_refl _) _) (Nat.le_refl _)) _ 1 1 [.int .u8 255] rfl rfl (Rd.one wr 5 _) (by intro u hu; simp at hu; subst hu; rfl) (by simp only [maxLen]; omega) (by omega) (by have := HSZ.out; simp; omega) ?_
             intro v' w5 hown5 hg5
             obtain ⟨A', c', rfl, hc', -, -, -, -⟩ := own_form hown5
             have hA : Below wr.heap.size wr (wr.alloc (.cells #[.int .u8 255] 5)) := (Below.refl _ _).alloc (Nat.le_refl _) _
             have hb5 : Bk w5 r _ _ := (HM.out.box.below hA HM.out.box.lt).grown hg5 (own_bk_ne (own_below HM.out.all hA (Nat.le_refl _)) (HM.out.box.below hA HM.out.box.lt) (by decide))
             have c5 := hb5.at_ (i := 4) (u := .slice A m c) rfl
             have f5 := hb5.free 4
             have HG5 := hide hg5
             have HO5 := hide hown5
             have HB5 := hide hb5
             clear hg5 hown5 hb5 hA hc'))
        have HNEXT : Hid (RN w (w5.setCell ⟨r, 4, none⟩ (.slice A' (m + 1) c')) g r gn gw gd (.slice A' (m + 1) c') (m + 1)) := hide (by
          have hA : Below wr.heap.size wr (wr.alloc (.cells #[.int .u8 255] 5)) := (Below.refl _ _).alloc (Nat.le_refl _) _
          have hO := own_below HM.out.all hA (Nat.le_refl _)
          have far : ∀ {x : Nat} {t : TypeId} {cs : Array Value}, Bk wr x t cs → t ≠ 5 → Bk w5 x t cs := fun hx hne => (hx.below hA hx.lt).grown HG5.out (own_bk_ne hO (hx.below hA hx.lt) (fun e => hne e.symm))
          have far2 : ∀ {x : Nat} {t : TypeId} {cs : Array Value}, Bk wr x t cs → t ≠ 5 → x ≠ r → Bk (w5.setCell ⟨r, 4, none⟩ (.slice A' (m + 1) c')) x t cs := fun hx hne hxr => (far hx hne).far (p := ⟨r, 4, none⟩) hxr _
          exact { box := HB5.out.put 4 _
                  all := by
                    have h := ownsRow_setCell_other HO5.out (a := ⟨r, 4, none⟩) (Ne.symm (own_bk_ne HO5.out HB5.out (by decide))) (.slice A' (m + 1) c')
                    rw [show List.replicate (m + 1) (255 : UInt8) = List.replicate m 255 ++ [255] from List.replicate_succ']
                    rw [u8v_append]
                    exact h
                  hn := far2 HM.out.hn (by decide) (bk_ne HM.out.hn HM.out.box (by decide))
                  hw := far2 HM.out.hw (by decide) (bk_ne HM.out.hw HM.out.box (by decide))
                  hd := far2 HM.out.hd (by decide) (bk_ne HM.out.hd HM.out.box (by decide))
                  ne := HM.out.ne
                  geo := far2 HM.out.geo (by decide) (bk_ne HM.out.geo HM.out.box (by decide))
                  low := (below_own (HM.out.low.trans (hA.mono HSZ.out)) hO HG5.out (by simp; have := HSZ.out; omega) (Nat.le_refl _)).setCell HM.out.r1 _
                  r1 := HM.out.r1
                  n1 := HM.out.n1
                  w1 := HM.out.w1
                  d1 := HM.out.d1 })
        go_roundw
        case rel => exact ⟨m + 1, A', c', by omega, by go_num, HNEXT⟩
        case measure => simp [intOf]; omega
      · have e1 : decide (m < N) = false := by simpa using hlt
        have e1' : decide ((m : Int) < (N : Int)) = false := by simp; omega
        obtain rfl : m = N := by omega
        obtain ⟨ga, cap, cur, hv, hga, -, hcur, hnc, hcm, hsz2, htk⟩ := own_block HM.out.all HN8.out
        injection hv with hv1 hv2 hv3
        subst hv1
        subst hv3
        have HRF : Hid (RAt wr g r ga gn gw gd c (newS g)) := hide (by
          unfold RAt
          exact { box := by
                    have h := HM.out.box
                    rw [HN.out] at h
                    exact h
                  all := ⟨cur, hcur, by rw [← HN.out, hsz2]; exact hnc, fun k i j hk hi hj => by
                    have hlt := ad_lt hk hi hj
                    rw [← HN.out] at hlt
                    have h1 : (cur.toList.take m)[ad g k i j]? = some (.int .u8 255) := by
                      rw [htk]
                      unfold u8v
                      simp [hlt]
                    rw [List.getElem?_take, if_pos hlt, Array.getElem?_toList] at h1
                    rw [h1]
                    unfold byt
                    simp [newS, List.getD_eq_getElem?_getD, hj]⟩
                  hn := HM.out.hn
                  hw := HM.out.hw
                  hd := HM.out.hd
                  ne := HM.out.ne
                  hc := by rw [← HN.out]; exact hnc })
        have HC : Hid (c ≤ 9223372036854775807) := hide hcm
        have HGA := hide hga
        clear hv2 hcur hnc hcm hsz2 htk hga
        go_wp2_with fail
        go_ret
        exact ⟨HM.out.low, r, ga, gn, gw, gd, c, rfl, HRF.out, HC.out, fun j hj => by
          rcases hj with h | h | h | h | h
          · rw [h]; exact HM.out.r1
          · rw [h]; exact HGA.out
          · rw [h]; exact HM.out.n1
          · rw [h]; exact HM.out.w1
          · rw [h]; exact HM.out.d1⟩

end Go.Proofs.YtbldjiofchaigaaDoor.ChipW
