/- The walks of the chip's Program, Erase, Read. -/
import Derived.Test.YtbldjiofchaigaaDoorChipA
import Derived.Deep.RegionHeld3
set_option linter.unusedVariables false
namespace Go.Proofs.YtbldjiofchaigaaDoor.ChipW
open Go.RowKit ChipP CopyW

/-- bytes.Clone. -/
theorem clone_any (A : Option Addr) (l : List UInt8) (n c : Nat) (w : World) (hn : n = l.length) (hm : n ≤ 140737488351232) (hA : A ≠ none) (hr : Rd w A (u8v l)) :
    Calls Tryd.prog 26 #[.slice A n c] w fun e w' => ∃ D c', e = .returned (.slice D n c') ∧ w'.ownsRow w.heap.size 5 1 (.slice D n c') n (u8v l) ∧ Below w.heap.size w w' := by
  have q22 : ∀ (w : World) (a : Option Addr) (n c n' c' : Nat), (binOp .eql 33 (.slice a n c) (.slice none n' c')).run Tryd.prog w = .ok (.bool a.isNone) w := fun w a n c n' c' => Lib.run_eql_slice_nil w _ _ a n c n' c' Tryd.underlying33
  cases A with
  | none => exact absurd rfl hA
  | some ad =>
    have HN := hide hn
    have HM := hide hm
    have h0 := own_empty w
    have hr' := hr.alloc (.cells #[] 5)
    clear hn hm hr hA
    go_enter Tryd.func26, Tryd.ntmps26
    go_wp2_with (first | (refine wpList_app _ rfl _ _ rfl w.heap.size _ 0 [] rfl h0 _ _ _ l rfl HN.out hr' (by have := HM.out; omega) (by simp) ?_; intro A' c' w1 hc1 hw1 hb1) | fail)
    go_ret
    rw [List.nil_append] at hw1
    rw [Nat.zero_add] at hw1
    exact ⟨A', c', rfl, hw1, ((Below.refl _ _).alloc (Nat.le_refl _) _).trans hb1⟩
theorem splice_page (P l : List UInt8) (m : Nat) (tl : List Value) (hm : m ≤ l.length) (hP : l.length = P.length) : splice (u8v P ++ tl) 0 (u8v (l.take m)) = u8v (l.take m ++ P.drop m) ++ tl := by
  have e1 : (u8v (l.take m)).length = m := by rw [u8v_length, List.length_take]; omega
  have e2 : (u8v P).length = P.length := u8v_length P
  unfold splice
  rw [List.take_zero, List.nil_append, e1, Nat.zero_add, List.drop_append, e2, show m - P.length = 0 from by omega, List.drop_zero, u8v_append, List.append_assoc]
  congr 2
  simp [u8v]
theorem mix_len {fault : Int} {l P : List UInt8} (h : l.length = P.length) : (mix fault l P).length = P.length := by
  unfold mix
  by_cases h0 : fault = 0
  · rw [if_pos h0, h]
  · rw [if_neg h0, List.length_append, List.length_take, List.length_drop]; omega
theorem upd_upd {α : Type} (f : Nat → α) (k : Nat) (a b : α) : upd (upd f k a) k b = upd f k b := by
  funext j
  by_cases h : j = k
  · rw [h, upd_eq, upd_eq]
  · rw [upd_ne _ _ _ _ h, upd_ne _ _ _ _ h, upd_ne _ _ _ _ h]

section
variable {w : World} {O : Nat → Prop} {g : Geo} {s : St} {c bb : Nat} {pb : Nat → Nat} {qb : Nat → Nat → Nat} {die k : Int}
theorem prog_at (h : atF g s die k ≠ 0) (page : Int) (l : List UInt8) (n : Nat) (hn : n = l.length) (fault : Int) : progE g s die k page n fault = atF g s die k ∧ progS g s die k page l fault = s := by
  subst hn
  have e : progF g s die k page l.length fault = atF g s die k := by unfold progF; rw [if_pos h]
  unfold progE progS
  rw [e]
  exact ⟨if_pos h, if_pos h⟩
theorem prog_bad {f : Int} (page : Int) (l : List UInt8) (n : Nat) (hn : n = l.length) (fault : Int) (e : progF g s die k page l.length fault = f) (hf : f ≠ 0) : progE g s die k page n fault = f ∧ progS g s die k page l fault = s := by
  subst hn
  unfold progE progS
  rw [e]
  exact ⟨if_pos hf, if_pos hf⟩
theorem prog_ok (page : Int) (l : List UInt8) (n : Nat) (hn : n = l.length) (fault : Int) (e : progF g s die k page l.length fault = 0) : progE g s die k page n fault = endF fault ∧ progS g s die k page l fault = ⟨decide (fault = 2), upd s.blk (ix g die k) (progB (s.blk (ix g die k)) page.toNat l fault)⟩ := by
  subst hn
  unfold progE progS
  rw [e]
  exact ⟨if_neg (fun h => h rfl), if_neg (fun h => h rfl)⟩
end

/-- What Program says. -/
def ProgPost (w : World) (O : Nat → Prop) (g : Geo) (s : St) (c bb : Nat) (pb : Nat → Nat) (qb : Nat → Nat → Nat) (err : Int) (s' : St) (e : Ending) (w' : World) : Prop := e = .returned (errV err) ∧ ChipL w' O g s' c bb pb qb ∧ Keep O w w'
set_option maxRecDepth 20000 in
set_option maxHeartbeats 4000000 in
theorem prog_any {w : World} {O : Nat → Prop} {g : Geo} {s : St} {c bb : Nat} {pb : Nat → Nat} {qb : Nat → Nat → Nat} (h : ChipL w O g s c bb pb qb) (hg : g.Ok) (die k page : Int) (A : Option Addr) (n cp : Nat) (l : List UInt8) (fault : Int) (hn : n = l.length) (hnc : n ≤ cp) (hr : Rd w A (u8v l)) (hA : u8v l ≠ [] → ∀ ad, A = some ad → O ad.block) (hn9 : n ≤ 140737488351232) :
    Calls Tryd.prog 11 #[ptr c, .int .i64 die, .int .i64 k, .int .i64 page, .slice A n cp, .int .i64 fault] w (ProgPost w O g s c bb pb qb (progE g s die k page n fault) (progS g s die k page l fault)) := by
  have HA := hide (at_any h hg die k)
  have HH := hide h
  have HN := hide hn
  have HR := hide hr
  have HO := hide hA
  have hp16 := hg.p16
  have hy8 := hg.y8
  have hy256 := hg.y256
  unfold ptr at HA ⊢
  clear h hn hr hA
  go_enter Tryd.func11, Tryd.ntmps11
  go_wp2_with fail
  refine HA.out.mono ?_
  rintro e w' ⟨⟨d, rfl⟩, ⟨hf, rfl⟩ | ⟨hf, rfl⟩⟩
  · have HX := hide (prog_at hf page l n HN.out fault)
    have HF := hide (errV_ne hf)
    have HL := hide (HH.out.drewN d)
    clear hf HA
    unfold errR
    go_wp2_with fail
    go_ret
    exact ⟨by rw [HX.out.1, HF.out]; rfl, by rw [HX.out.2]; exact HL.out, (Keep.refl _ _).drewN d⟩
  · have hz := at_zero hf
    have hlt := ix_lt hz.2.1 hz.2.2.1 hz.2.2.2.1 hz.2.2.2.2
    have HOFF := hide hz.1
    have HLT := hide hlt
    have HF := hide hf
    have c3 := HH.out.b3
    have c4 := HH.out.b4
    have a1 := HH.out.a1 hlt
    have a3 := HH.out.a3 hlt
    have HL := hide (HH.out.drewN d)
    obtain ⟨M, hM⟩ : ∃ M, M = ix g die k := ⟨_, rfl⟩
    have HM := hide hM
    rw [← hM] at a1 a3 ⊢
    clear hz hf HA hlt hM
    by_cases hb4 : page < 0 ∨ (g.p : Int) ≤ page ∨ fault < 0 ∨ (2 : Int) < fault
    · have HX := hide (prog_bad (g := g) (s := s) (die := die) (k := k) page l n HN.out fault (f := 1) (by unfold progF; rw [if_neg (fun h => h HF.out), if_pos hb4]) (by decide))
      have hbad : page < 0 ∨ (¬ page < 0 ∧ (g.p : Int) ≤ page) ∨ (¬ page < 0 ∧ ¬ (g.p : Int) ≤ page ∧ fault < 0) ∨ (¬ page < 0 ∧ ¬ (g.p : Int) ≤ page ∧ ¬ fault < 0 ∧ (2 : Int) < fault) := by omega
      clear hb4
      rcases hbad with hbad | hbad | hbad | hbad
      · have d1 : decide (page < 0) = true := decide_eq_true (by omega)
        clear hbad
        go_wp2_with fail
        go_ret
        exact ⟨by rw [HX.out.1]; rfl, by rw [HX.out.2]; exact HL.out, (Keep.refl _ _).drewN d⟩
      · have d1 : decide (page < 0) = false := decide_eq_false (by omega)
        have d2 : decide (page ≥ (g.p : Int)) = true := decide_eq_true (by omega)
        clear hbad
        go_wp2_with fail
        go_ret
        exact ⟨by rw [HX.out.1]; rfl, by rw [HX.out.2]; exact HL.out, (Keep.refl _ _).drewN d⟩
      · have d1 : decide (page < 0) = false := decide_eq_false (by omega)
        have d2 : decide (page ≥ (g.p : Int)) = false := decide_eq_false (by omega)
        have d3 : decide (fault < 0) = true := decide_eq_true (by omega)
        clear hbad
        go_wp2_with fail
        go_ret
        exact ⟨by rw [HX.out.1]; rfl, by rw [HX.out.2]; exact HL.out, (Keep.refl _ _).drewN d⟩
      · have d1 : decide (page < 0) = false := decide_eq_false (by omega)
        have d2 : decide (page ≥ (g.p : Int)) = false := decide_eq_false (by omega)
        have d3 : decide (fault < 0) = false := decide_eq_false (by omega)
        have d4 : decide (fault > 2) = true := decide_eq_true (by omega)
        clear hbad
        go_wp2_with fail
        go_ret
        exact ⟨by rw [HX.out.1]; rfl, by rw [HX.out.2]; exact HL.out, (Keep.refl _ _).drewN d⟩
    · have d1 : decide (page < 0) = false := decide_eq_false (by omega)
      have d2 : decide (page ≥ (g.p : Int)) = false := decide_eq_false (by omega)
      have d3 : decide (fault < 0) = false := decide_eq_false (by omega)
      have d4 : decide (fault > 2) = false := decide_eq_false (by omega)
      by_cases hny : n = g.y
      · subst hny
        have dn : ((g.y : Int) != (g.y : Int)) = false := by simp
        cases hbd : (s.blk M).bad with
        | true =>
          have HX := hide (prog_bad (g := g) (s := s) (die := die) (k := k) page l g.y HN.out fault (f := 6) (by unfold progF; rw [if_neg (fun h => h HF.out), if_neg hb4, if_neg (fun h => h (by rw [← HN.out])), if_pos (by rw [← HM.out]; exact hbd)]) (by decide))
          rw [hbd] at a3
          clear hbd hb4
          go_wp2_with fail
          go_ret
          exact ⟨by rw [HX.out.1]; rfl, by rw [HX.out.2]; exact HL.out, (Keep.refl _ _).drewN d⟩
        | false =>
          rw [hbd] at a3
          obtain ⟨nx, hnx⟩ : ∃ nx, nx = (s.blk M).nx := ⟨_, rfl⟩
          have HNX := hide hnx
          rw [← hnx] at a1
          clear hnx
          by_cases hpn : page = (nx : Int)
          · have HX := hide (prog_ok (g := g) (s := s) (die := die) (k := k) page l g.y HN.out fault (by unfold progF; rw [if_neg (fun h => h HF.out), if_neg hb4, if_neg (fun h => h (by rw [← HN.out])), if_neg (by rw [← HM.out, hbd]; decide), if_neg (fun h => h (by rw [← HM.out, ← HNX.out]; exact hpn))]))
            rw [← HM.out] at HX
            clear hbd
            subst hpn
            have hnp : nx < g.p := by omega
            have dq : ((nx : Int) != (nx : Int)) = false := by simp
            have q1 : IntKind.i64.wrap ((nx : Int) + 1) = ((nx + 1 : Nat) : Int) := by rw [IntKind.wrap_i64]; omega
            have fz : (w.drewN d).frozen? ⟨bb, M * 4 + 1, none⟩ = false := HL.out.arr.free _
            have HL2 := hide (HL.out.setNx M (nx + 1))
            have HK2 := hide (((Keep.refl O w).drewN d).trans (Keep.set (w.drewN d) (p := ⟨bb, M * 4 + 1, none⟩) HH.out.ob (.int .i64 ((nx + 1 : Nat) : Int))))
            rw [show ((nx + 1 : Nat) : Int) = (nx : Int) + 1 from by simp] at HL2 HK2
            obtain ⟨P, hP⟩ : ∃ P, P = (s.blk M).pg nx := ⟨_, rfl⟩
            have HP := hide hP
            have HPL : Hid (l.length = P.length) := hide (by rw [hP, HH.out.len M nx (HM.out ▸ HLT.out) hnp, ← HN.out])
            clear hP
            have HEND : Hid (∀ (W3 : World) (f : Int), fault = f → ChipL W3 O g { { s with blk := upd s.blk M { s.blk M with nx := nx + 1 } } with blk := upd (upd s.blk M { s.blk M with nx := nx + 1 }) M { (upd s.blk M { s.blk M with nx := nx + 1 }) M with pg := upd ((upd s.blk M { s.blk M with nx := nx + 1 }) M).pg nx (mix f l P) } } c bb pb qb → Keep O w W3 →
                Calls Tryd.prog 25 #[.pointer (some ⟨c, 0, none⟩), .int .i64 f] W3 (ProgPost w O g s c bb pb qb (progE g s die k nx g.y fault) (progS g s die k nx l fault))) := hide (fun W3 f hf hL3 hK3 => (end_any hL3 HOFF.out f).mono (by
                  rintro e W4 ⟨rfl, hL4, hK4⟩
                  subst hf
                  refine ⟨by rw [HX.out.1], ?_, hK3.trans hK4⟩
                  rw [HX.out.2]
                  rw [upd_eq, upd_upd, HP.out, HNX.out] at hL4
                  have e2 : progB (s.blk M) ((nx : Int)).toNat l fault = { { s.blk M with nx := nx + 1 } with pg := upd (s.blk M).pg nx (mix fault l ((s.blk M).pg nx)) } := by
                    unfold progB
                    rw [Int.toNat_natCast, HNX.out]
                  rw [e2, HNX.out]
                  exact hL4))
            obtain ⟨tl, htl⟩ := HL2.out.pag M nx (HM.out ▸ HLT.out) hnp
            have hpg2 : ((upd s.blk M { s.blk M with nx := nx + 1 }) M).pg nx = P := by rw [upd_eq, HP.out]
            have p0 := HL2.out.p0 (HM.out ▸ HLT.out) hnp
            have e0 := HL2.out.a0 (HM.out ▸ HLT.out)
            unfold ChipW.pgs at p0
            simp only [hpg2] at htl
            have HTL := hide htl
            have HQN : Hid (bb ≠ qb M nx) := hide (bk_ne HL2.out.arr htl (by decide))
            have HQP : Hid (pb M ≠ qb M nx) := hide (bk_ne (HL2.out.pgs M (HM.out ▸ HLT.out)) htl (by decide))
            have HR2 := hide (HK2.out.rd HR.out HO.out)
            obtain ⟨ba, off, hA, -, -⟩ := HR.out.form (by rw [u8v_length, ← HN.out]; omega)
            subst hA
            have d2' : decide (g.p ≤ nx) = false := decide_eq_false (by omega)
            have hpi : (nx : Int) < (g.p : Int) := by omega
            clear htl hpg2
            have hfc : fault = 0 ∨ fault = 1 ∨ fault = 2 := by omega
            clear hb4
            rcases hfc with rfl | rfl | rfl
            · have hmc : g.y ≤ cp := hnc
              have hmn : g.y ≤ g.y := Nat.le_refl _
              have HMIX : Hid (mix 0 l P = l.take g.y ++ P.drop g.y) := hide (by unfold mix; rw [if_pos rfl, List.take_of_length_le (Nat.le_of_eq HN.out.symm), List.drop_of_length_le (Nat.le_of_eq (HPL.out.symm.trans HN.out.symm)), List.append_nil])
              have hmci : (g.y : Int) ≤ (cp : Int) := by omega
              have HCL : Hid ((u8v (l.take g.y)).length = Nat.min g.y g.y) := hide (by rw [u8v_length, List.length_take, ← HN.out, Nat.min_eq_left hmn]; exact (Nat.min_eq_left hmn).symm)
              have HFT : Hid (0 + (u8v (l.take g.y)).length ≤ (u8v P ++ tl).length) := hide (by rw [List.length_append, u8v_length, u8v_length, List.length_take, ← HPL.out]; omega)
              have HRM := hide (show Rd _ _ (u8v (l.take g.y)) from (by have h := HR2.out.take g.y; rw [u8v, ← List.map_take] at h; exact h))
              have HML : Hid (g.y ≤ l.length ∧ l.length = P.length ∧ (l.take g.y ++ P.drop g.y).length = g.y) := hide ⟨by rw [← HN.out]; exact hmn, HPL.out, by rw [List.length_append, List.length_take, List.length_drop, ← HPL.out, ← HN.out]; omega⟩
              go_wp2_with fail
              generalize hW2 : (w.drewN d).setCell ⟨bb, M * 4 + 1, none⟩ (.int .i64 ((nx : Int) + 1)) = W2 at *
              clear hW2
              go_region_held3 (fun w' => w'.cell? ⟨bb, M * 4, none⟩ = some (.slice (some ⟨pb M, 0, none⟩) g.p g.p) ∧ w'.cell? ⟨pb M, nx, none⟩ = some (.slice (some ⟨qb M nx, 0, none⟩) g.y g.y))
                (first | exact ⟨e0, p0⟩ | exact ⟨s1, s2⟩)
                (first
                  | (refine step_copy_grown rfl (.tmp 91) (.tmp 94) rfl (some ⟨qb M nx, 0, none⟩) (some ⟨ba, off, none⟩) g.y g.y g.y cp rfl rfl (qb M nx) 0 (u8v P ++ tl) HTL.out.drew (u8v (l.take g.y)) HCL.out (fun _ => ⟨rfl, HRM.out.drew⟩) HFT.out (u8v_one _) ?_
                     intro W3 HB3 hg3
                     have s1 := (World.cell?_of_block (hg3.block bb (World.block_lt_of_cell? W2 _ e0) (fun e => HQN.out (by injection e)))).trans e0
                     have s2 := (World.cell?_of_block (hg3.block (pb M) (World.block_lt_of_cell? W2 _ p0) (fun e => HQP.out (by injection e)))).trans p0))
              rw [splice_page _ _ _ _ HML.out.1 HML.out.2.1] at HB3
              have HL3 := hide ((HL2.out.keep (w' := W2.drew) (fun _ _ _ => rfl)).setPage (HM.out ▸ HLT.out) hnp (l.take g.y ++ P.drop g.y) tl HML.out.2.2 HB3.out hg3)
              rw [← HMIX.out] at HL3
              have HK3 := hide (HK2.out.drew.trans (Keep.grown hg3 (HH.out.oq M nx (HM.out ▸ HLT.out) hnp)))
              clear HB3 hg3 s1 s2
              go_wp2_with fail
              refine (HEND.out W3 0 rfl HL3.out HK3.out).mono ?_
              rintro e W4 ⟨rfl, hL4, hK4⟩
              have HL4 := hide hL4
              have HK4 := hide hK4
              clear hL4 hK4
              go_wp2_with fail
              go_ret
              exact ⟨rfl, HL4.out, HK4.out⟩
            · obtain ⟨m, hm⟩ : ∃ m, m = g.y / 2 := ⟨_, rfl⟩
              have hq2 : (g.y : Int) / 2 = (m : Int) := by omega
              have hmc : m ≤ cp := by omega
              have hmn : m ≤ g.y := by omega
              have HMIX : Hid (mix 1 l P = l.take m ++ P.drop m) := hide (by unfold mix; rw [if_neg (by decide), ← HN.out, ← hm])
              have hmci : (m : Int) ≤ (cp : Int) := by omega
              have HCL : Hid ((u8v (l.take m)).length = Nat.min m g.y) := hide (by rw [u8v_length, List.length_take, ← HN.out, Nat.min_eq_left hmn]; exact (Nat.min_eq_left hmn).symm)
              have HFT : Hid (0 + (u8v (l.take m)).length ≤ (u8v P ++ tl).length) := hide (by rw [List.length_append, u8v_length, u8v_length, List.length_take, ← HPL.out]; omega)
              have HRM := hide (show Rd _ _ (u8v (l.take m)) from (by have h := HR2.out.take m; rw [u8v, ← List.map_take] at h; exact h))
              have HML : Hid (m ≤ l.length ∧ l.length = P.length ∧ (l.take m ++ P.drop m).length = g.y) := hide ⟨by rw [← HN.out]; exact hmn, HPL.out, by rw [List.length_append, List.length_take, List.length_drop, ← HPL.out, ← HN.out]; omega⟩
              clear hm
              go_wp2_with fail
              generalize hW2 : (w.drewN d).setCell ⟨bb, M * 4 + 1, none⟩ (.int .i64 ((nx : Int) + 1)) = W2 at *
              clear hW2
              go_region_held3 (fun w' => w'.cell? ⟨bb, M * 4, none⟩ = some (.slice (some ⟨pb M, 0, none⟩) g.p g.p) ∧ w'.cell? ⟨pb M, nx, none⟩ = some (.slice (some ⟨qb M nx, 0, none⟩) g.y g.y))
                (first | exact ⟨e0, p0⟩ | exact ⟨s1, s2⟩)
                (first
                  | (refine step_copy_grown rfl (.tmp 91) (.tmp 94) rfl (some ⟨qb M nx, 0, none⟩) (some ⟨ba, off, none⟩) g.y g.y m cp rfl rfl (qb M nx) 0 (u8v P ++ tl) HTL.out.drew (u8v (l.take m)) HCL.out (fun _ => ⟨rfl, HRM.out.drew⟩) HFT.out (u8v_one _) ?_
                     intro W3 HB3 hg3
                     have s1 := (World.cell?_of_block (hg3.block bb (World.block_lt_of_cell? W2 _ e0) (fun e => HQN.out (by injection e)))).trans e0
                     have s2 := (World.cell?_of_block (hg3.block (pb M) (World.block_lt_of_cell? W2 _ p0) (fun e => HQP.out (by injection e)))).trans p0))
              rw [splice_page _ _ _ _ HML.out.1 HML.out.2.1] at HB3
              have HL3 := hide ((HL2.out.keep (w' := W2.drew) (fun _ _ _ => rfl)).setPage (HM.out ▸ HLT.out) hnp (l.take m ++ P.drop m) tl HML.out.2.2 HB3.out hg3)
              rw [← HMIX.out] at HL3
              have HK3 := hide (HK2.out.drew.trans (Keep.grown hg3 (HH.out.oq M nx (HM.out ▸ HLT.out) hnp)))
              clear HB3 hg3 s1 s2
              go_wp2_with fail
              refine (HEND.out W3 1 rfl HL3.out HK3.out).mono ?_
              rintro e W4 ⟨rfl, hL4, hK4⟩
              have HL4 := hide hL4
              have HK4 := hide hK4
              clear hL4 hK4
              go_wp2_with fail
              go_ret
              exact ⟨rfl, HL4.out, HK4.out⟩
            · obtain ⟨m, hm⟩ : ∃ m, m = g.y / 2 := ⟨_, rfl⟩
              have hq2 : (g.y : Int) / 2 = (m : Int) := by omega
              have hmc : m ≤ cp := by omega
              have hmn : m ≤ g.y := by omega
              have HMIX : Hid (mix 2 l P = l.take m ++ P.drop m) := hide (by unfold mix; rw [if_neg (by decide), ← HN.out, ← hm])
              have hmci : (m : Int) ≤ (cp : Int) := by omega
              have HCL : Hid ((u8v (l.take m)).length = Nat.min m g.y) := hide (by rw [u8v_length, List.length_take, ← HN.out, Nat.min_eq_left hmn]; exact (Nat.min_eq_left hmn).symm)
              have HFT : Hid (0 + (u8v (l.take m)).length ≤ (u8v P ++ tl).length) := hide (by rw [List.length_append, u8v_length, u8v_length, List.length_take, ← HPL.out]; omega)
              have HRM := hide (show Rd _ _ (u8v (l.take m)) from (by have h := HR2.out.take m; rw [u8v, ← List.map_take] at h; exact h))
              have HML : Hid (m ≤ l.length ∧ l.length = P.length ∧ (l.take m ++ P.drop m).length = g.y) := hide ⟨by rw [← HN.out]; exact hmn, HPL.out, by rw [List.length_append, List.length_take, List.length_drop, ← HPL.out, ← HN.out]; omega⟩
              clear hm
              go_wp2_with fail
              generalize hW2 : (w.drewN d).setCell ⟨bb, M * 4 + 1, none⟩ (.int .i64 ((nx : Int) + 1)) = W2 at *
              clear hW2
              go_region_held3 (fun w' => w'.cell? ⟨bb, M * 4, none⟩ = some (.slice (some ⟨pb M, 0, none⟩) g.p g.p) ∧ w'.cell? ⟨pb M, nx, none⟩ = some (.slice (some ⟨qb M nx, 0, none⟩) g.y g.y))
                (first | exact ⟨e0, p0⟩ | exact ⟨s1, s2⟩)
                (first
                  | (refine step_copy_grown rfl (.tmp 91) (.tmp 94) rfl (some ⟨qb M nx, 0, none⟩) (some ⟨ba, off, none⟩) g.y g.y m cp rfl rfl (qb M nx) 0 (u8v P ++ tl) HTL.out.drew (u8v (l.take m)) HCL.out (fun _ => ⟨rfl, HRM.out.drew⟩) HFT.out (u8v_one _) ?_
                     intro W3 HB3 hg3
                     have s1 := (World.cell?_of_block (hg3.block bb (World.block_lt_of_cell? W2 _ e0) (fun e => HQN.out (by injection e)))).trans e0
                     have s2 := (World.cell?_of_block (hg3.block (pb M) (World.block_lt_of_cell? W2 _ p0) (fun e => HQP.out (by injection e)))).trans p0))
              rw [splice_page _ _ _ _ HML.out.1 HML.out.2.1] at HB3
              have HL3 := hide ((HL2.out.keep (w' := W2.drew) (fun _ _ _ => rfl)).setPage (HM.out ▸ HLT.out) hnp (l.take m ++ P.drop m) tl HML.out.2.2 HB3.out hg3)
              rw [← HMIX.out] at HL3
              have HK3 := hide (HK2.out.drew.trans (Keep.grown hg3 (HH.out.oq M nx (HM.out ▸ HLT.out) hnp)))
              clear HB3 hg3 s1 s2
              go_wp2_with fail
              refine (HEND.out W3 2 rfl HL3.out HK3.out).mono ?_
              rintro e W4 ⟨rfl, hL4, hK4⟩
              have HL4 := hide hL4
              have HK4 := hide hK4
              clear hL4 hK4
              go_wp2_with fail
              go_ret
              exact ⟨rfl, HL4.out, HK4.out⟩
          · have HX := hide (prog_bad (g := g) (s := s) (die := die) (k := k) page l g.y HN.out fault (f := 5) (by unfold progF; rw [if_neg (fun h => h HF.out), if_neg hb4, if_neg (fun h => h (by rw [← HN.out])), if_neg (by rw [← HM.out, hbd]; decide), if_pos (by rw [← HM.out, ← HNX.out]; exact hpn)]) (by decide))
            have dq : (page != (nx : Int)) = true := by simpa using hpn
            clear hbd hb4 hpn
            go_wp2_with fail
            go_ret
            exact ⟨by rw [HX.out.1]; rfl, by rw [HX.out.2]; exact HL.out, (Keep.refl _ _).drewN d⟩
      · have HX := hide (prog_bad (g := g) (s := s) (die := die) (k := k) page l n HN.out fault (f := 2) (by unfold progF; rw [if_neg (fun h => h HF.out), if_neg hb4, if_pos (by rw [← HN.out]; exact hny)]) (by decide))
        have dn : ((n : Int) != (g.y : Int)) = true := by simp; omega
        clear hb4 hny
        go_wp2_with fail
        go_ret
        exact ⟨by rw [HX.out.1]; rfl, by rw [HX.out.2]; exact HL.out, (Keep.refl _ _).drewN d⟩
end Go.Proofs.YtbldjiofchaigaaDoor.ChipW
