/- The walk of the document's chip: Program. -/
import Derived.Test.YtbldjiofchaigaaDoorRChip
import Derived.Test.YtbldjiofchaigaaDoorChipE
set_option linter.unusedVariables false
namespace Go.Proofs.YtbldjiofchaigaaDoor.ChipW
open Go.RowKit ChipP CopyW ToldW

/-- What a call on the document's chip leaves. -/
def RPost (w : World) (g : Geo) (r ga gn gw gd cap : Nat) (err : Int) (s' : St) (e : Ending) (w' : World) : Prop := e = .returned (.int .i64 err) ∧ RAt w' g r ga gn gw gd cap s' ∧ Keep (fun j => ¬ RB r ga gn gw gd j) w w'

theorem mix_getD (fault : Int) (l old : List UInt8) (j : Nat) : (mix fault l old).getD j 0 = if fault = 0 ∨ j < l.length / 2 then l.getD j 0 else old.getD j 0 := by
  unfold mix
  by_cases h0 : fault = 0
  · rw [if_pos h0, if_pos (.inl h0)]
  · rw [if_neg h0]
    have hlen : (l.take (l.length / 2)).length = l.length / 2 := by rw [List.length_take]; omega
    by_cases h1 : j < l.length / 2
    · rw [if_pos (.inr h1)]
      simp only [List.getD_eq_getElem?_getD]
      rw [List.getElem?_append_left (by omega), List.getElem?_take, if_pos h1]
    · rw [if_neg (by omega)]
      simp only [List.getD_eq_getElem?_getD]
      rw [List.getElem?_append_right (by omega), List.getElem?_drop, hlen, show l.length / 2 + (j - l.length / 2) = j from by omega]

/-- The bytes behind m rounds of Program's loop. -/
def pgF (s : St) (M P m : Nat) (fault : Int) (l : List UInt8) (k' i' j' : Nat) : Int := if k' = M ∧ i' = P ∧ j' < m ∧ (fault = 0 ∨ j' < l.length / 2) then ((l.getD j' 0).toNat : Int) else byt s k' i' j'
theorem pgF_zero (s : St) (M P : Nat) (fault : Int) (l : List UInt8) (k' i' j' : Nat) : byt s k' i' j' = pgF s M P 0 fault l k' i' j' := by
  unfold pgF
  rw [if_neg (fun h => absurd h.2.2.1 (Nat.not_lt_zero _))]
theorem pgF_yes (s : St) (M P m : Nat) (fault : Int) (l : List UInt8) (h : fault = 0 ∨ m < l.length / 2) (k' i' j' : Nat) : (if k' = M ∧ i' = P ∧ j' = m then ((l.getD m 0).toNat : Int) else pgF s M P m fault l k' i' j') = pgF s M P (m + 1) fault l k' i' j' := by
  unfold pgF
  by_cases h1 : k' = M ∧ i' = P ∧ j' = m
  · obtain ⟨rfl, rfl, rfl⟩ := h1
    rw [if_pos ⟨rfl, rfl, rfl⟩, if_pos ⟨rfl, rfl, by omega, h⟩]
  · rw [if_neg h1]
    by_cases h2 : k' = M ∧ i' = P ∧ j' < m ∧ (fault = 0 ∨ j' < l.length / 2)
    · rw [if_pos h2, if_pos ⟨h2.1, h2.2.1, by omega, h2.2.2.2⟩]
    · rw [if_neg h2, if_neg (fun h3 => (by
        by_cases e : j' = m
        · exact h1 ⟨h3.1, h3.2.1, e⟩
        · exact h2 ⟨h3.1, h3.2.1, by omega, h3.2.2.2⟩))]
theorem pgF_no (s : St) (M P m : Nat) (fault : Int) (l : List UInt8) (h : ¬ (fault = 0 ∨ m < l.length / 2)) (k' i' j' : Nat) : pgF s M P m fault l k' i' j' = pgF s M P (m + 1) fault l k' i' j' := by
  unfold pgF
  by_cases h2 : k' = M ∧ i' = P ∧ j' < m ∧ (fault = 0 ∨ j' < l.length / 2)
  · rw [if_pos h2, if_pos ⟨h2.1, h2.2.1, by omega, h2.2.2.2⟩]
  · rw [if_neg h2, if_neg (fun h3 => (by
      by_cases e : j' = m
      · exact h (e ▸ h3.2.2.2)
      · exact h2 ⟨h3.1, h3.2.1, by omega, h3.2.2.2⟩))]
theorem pgF_end (s : St) (M P : Nat) (fault : Int) (l : List UInt8) (off : Bool) (b : BS) (hb : b.pg = upd (s.blk M).pg P (mix fault l ((s.blk M).pg P))) (k' i' j' : Nat) (hj : j' < l.length) : pgF s M P l.length fault l k' i' j' = byt ⟨off, upd s.blk M b⟩ k' i' j' := by
  unfold pgF byt
  simp only
  by_cases h1 : k' = M
  · subst h1
    rw [upd_eq, hb]
    by_cases h2 : i' = P
    · subst h2
      rw [upd_eq, mix_getD]
      by_cases h3 : fault = 0 ∨ j' < l.length / 2
      · rw [if_pos ⟨rfl, rfl, hj, h3⟩, if_pos h3]
      · rw [if_neg (fun h => h3 h.2.2.2), if_neg h3]
    · rw [upd_ne _ _ _ _ h2, if_neg (fun h => h2 h.2.1)]
  · rw [upd_ne _ _ _ _ h1, if_neg (fun h => h1 h.1)]

section
variable {w : World} {g : Geo} {r ga gn gw gd cap : Nat} {off : Bool} {nx wr : Nat → Int} {bad : Nat → Bool} {f : Nat → Nat → Nat → Int}
theorem RF.drew (h : RF w g r ga gn gw gd cap off nx wr bad f) : RF w.drew g r ga gn gw gd cap off nx wr bad f := h.keep fun _ _ _ => rfl
theorem RF.b2 (h : RF w g r ga gn gw gd cap off nx wr bad f) : w.cell? ⟨r, 2, none⟩ = some (.int .i64 g.p) := h.box.at_ (i := 2) rfl
theorem RF.b3 (h : RF w g r ga gn gw gd cap off nx wr bad f) : w.cell? ⟨r, 3, none⟩ = some (.int .i64 g.y) := h.box.at_ (i := 3) rfl
theorem RF.b4 (h : RF w g r ga gn gw gd cap off nx wr bad f) : w.cell? ⟨r, 4, none⟩ = some (.slice (some ⟨ga, 0, none⟩) (g.n * g.p * g.y) cap) := h.box.at_ (i := 4) rfl
theorem RF.b5 (h : RF w g r ga gn gw gd cap off nx wr bad f) : w.cell? ⟨r, 5, none⟩ = some (.slice (some ⟨gn, 0, none⟩) g.n g.n) := h.box.at_ (i := 5) rfl
theorem RF.b6 (h : RF w g r ga gn gw gd cap off nx wr bad f) : w.cell? ⟨r, 6, none⟩ = some (.slice (some ⟨gw, 0, none⟩) g.n g.n) := h.box.at_ (i := 6) rfl
theorem RF.b7 (h : RF w g r ga gn gw gd cap off nx wr bad f) : w.cell? ⟨r, 7, none⟩ = some (.slice (some ⟨gd, 0, none⟩) g.n g.n) := h.box.at_ (i := 7) rfl
theorem RF.b8 (h : RF w g r ga gn gw gd cap off nx wr bad f) : w.cell? ⟨r, 8, none⟩ = some (.bool off) := h.box.at_ (i := 8) rfl
theorem RF.nx_ (h : RF w g r ga gn gw gd cap off nx wr bad f) {k : Nat} (hk : k < g.n) : w.cell? ⟨gn, k, none⟩ = some (.int .i64 (nx k)) := h.hn.at_ (rowF_at _ hk)
theorem RF.wr_ (h : RF w g r ga gn gw gd cap off nx wr bad f) {k : Nat} (hk : k < g.n) : w.cell? ⟨gw, k, none⟩ = some (.int .i64 (wr k)) := h.hw.at_ (rowF_at _ hk)
theorem RF.bad_ (h : RF w g r ga gn gw gd cap off nx wr bad f) {k : Nat} (hk : k < g.n) : w.cell? ⟨gd, k, none⟩ = some (.bool (bad k)) := h.hd.at_ (rowF_at _ hk)
theorem RF.all_ (h : RF w g r ga gn gw gd cap off nx wr bad f) {k i j : Nat} (hk : k < g.n) (hi : i < g.p) (hj : j < g.y) : w.cell? ⟨ga, ad g k i j, none⟩ = some (.int .u8 (f k i j)) ∧ w.frozen? ⟨ga, ad g k i j, none⟩ = false := by
  obtain ⟨cs, a, b, c⟩ := h.all
  exact ⟨a.at_ (c k i j hk hi hj), a.free _⟩
end

/-- Where Program's loop stands. -/
def PI (w0 W : World) (g : Geo) (r ga gn gw gd cap : Nat) (s : St) (M P m : Nat) (fault : Int) (l : List UInt8) : Prop :=
  RF W g r ga gn gw gd cap s.off (upd (fun k => ((s.blk k).nx : Int)) M ((P : Int) + 1)) (fun k => ((s.blk k).wr : Int)) (fun k => (s.blk k).bad) (pgF s M P m fault l) ∧ Keep (fun j => ¬ RB r ga gn gw gd j) w0 W
theorem half_nat (n : Nat) : (n : Int).tdiv 2 = ((n / 2 : Nat) : Int) := by
  rw [Int.tdiv_eq_ediv_of_nonneg (by omega)]; omega

attribute [local irreducible] pgF byt PI
set_option maxRecDepth 20000 in
set_option maxHeartbeats 4000000 in
theorem rprog_any {w : World} {g : Geo} {r ga gn gw gd cap : Nat} {s : St} (h : RAt w g r ga gn gw gd cap s) (hg : g.Ok) (die k page : Int) (A : Option Addr) (n cp : Nat) (l : List UInt8) (fault : Int) (hn : n = l.length) (hnc : n ≤ cp) (hr : Rd w A (u8v l)) (hA : u8v l ≠ [] → ∀ ad, A = some ad → ¬ RB r ga gn gw gd ad.block) (hn9 : n ≤ 140737488351232) :
    Calls Tryd.prog 28 #[ptr r, .int .i64 die, .int .i64 k, .int .i64 page, .slice A n cp, .int .i64 fault] w (RPost w g r ga gn gw gd cap (progE g s die k page n fault) (progS g s die k page l fault)) := by
  have HFA := hide (rfault_any h hg die k)
  have HH := hide h
  have HN := hide hn
  have HR := hide hr
  have HO := hide hA
  have HG := hide hg
  have hp16 := hg.p16
  have hy8 := hg.y8
  have hy256 := hg.y256
  unfold ptr at HFA ⊢
  clear h hn hr hA
  go_enter Tryd.func28, Tryd.ntmps28
  go_wp2_with fail
  refine HFA.out.mono ?_
  rintro e w' ⟨rfl, ⟨hf, rfl⟩ | ⟨hf, rfl⟩⟩
  · have HX := hide (prog_at hf page l n HN.out fault)
    have d0 : (atF g s die k != 0) = true := by simpa using hf
    clear hf HFA
    go_wp2_with fail
    go_ret
    exact ⟨by rw [HX.out.1]; rfl, by rw [HX.out.2]; exact HH.out, Keep.refl _ _⟩
  · have hz := at_zero hf
    have hlt := ix_lt hz.2.1 hz.2.2.1 hz.2.2.2.1 hz.2.2.2.2
    have HOFF := hide hz.1
    have HLT := hide hlt
    have HF := hide hf
    have c2 := RF.b2 HH.out
    have c3 := RF.b3 HH.out
    have c5 := RF.b5 HH.out
    have c7 := RF.b7 HH.out
    have a1 := RF.nx_ HH.out hlt
    have a3 := RF.bad_ HH.out hlt
    obtain ⟨M, hM⟩ : ∃ M, M = ix g die k := ⟨_, rfl⟩
    have HM := hide hM
    have HMN : Hid (M < g.n) := hide (hM ▸ hlt)
    have hMi : (M : Int) < (g.n : Int) := by rw [hM]; omega
    rw [← hM] at a1 a3 ⊢
    clear hz hf HFA hlt hM
    by_cases hb4 : page < 0 ∨ (g.p : Int) ≤ page ∨ fault < 0 ∨ (2 : Int) < fault
    · have HX := hide (prog_bad (g := g) (s := s) (die := die) (k := k) page l n HN.out fault (f := 1) (by unfold progF; rw [if_neg (fun h => h HF.out), if_pos hb4]) (by decide))
      have hbad : page < 0 ∨ (¬ page < 0 ∧ (g.p : Int) ≤ page) ∨ (¬ page < 0 ∧ ¬ (g.p : Int) ≤ page ∧ fault < 0) ∨ (¬ page < 0 ∧ ¬ (g.p : Int) ≤ page ∧ ¬ fault < 0 ∧ (2 : Int) < fault) := by omega
      clear hb4
      rcases hbad with hbad | hbad | hbad | hbad
      · have d1 : decide (page < 0) = true := decide_eq_true (by omega)
        clear hbad
        go_wp2_with fail
        go_ret
        exact ⟨by rw [HX.out.1]; rfl, by rw [HX.out.2]; exact HH.out, Keep.refl _ _⟩
      · have d1 : decide (page < 0) = false := decide_eq_false (by omega)
        have d2 : decide (page ≥ (g.p : Int)) = true := decide_eq_true (by omega)
        clear hbad
        go_wp2_with fail
        go_ret
        exact ⟨by rw [HX.out.1]; rfl, by rw [HX.out.2]; exact HH.out, Keep.refl _ _⟩
      · have d1 : decide (page < 0) = false := decide_eq_false (by omega)
        have d2 : decide (page ≥ (g.p : Int)) = false := decide_eq_false (by omega)
        have d3 : decide (fault < 0) = true := decide_eq_true (by omega)
        clear hbad
        go_wp2_with fail
        go_ret
        exact ⟨by rw [HX.out.1]; rfl, by rw [HX.out.2]; exact HH.out, Keep.refl _ _⟩
      · have d1 : decide (page < 0) = false := decide_eq_false (by omega)
        have d2 : decide (page ≥ (g.p : Int)) = false := decide_eq_false (by omega)
        have d3 : decide (fault < 0) = false := decide_eq_false (by omega)
        have d4 : decide (fault > 2) = true := decide_eq_true (by omega)
        clear hbad
        go_wp2_with fail
        go_ret
        exact ⟨by rw [HX.out.1]; rfl, by rw [HX.out.2]; exact HH.out, Keep.refl _ _⟩
    · have d1 : decide (page < 0) = false := decide_eq_false (by omega)
      have d2 : decide (page ≥ (g.p : Int)) = false := decide_eq_false (by omega)
      have d3 : decide (fault < 0) = false := decide_eq_false (by omega)
      have d4 : decide (fault > 2) = false := decide_eq_false (by omega)
      by_cases hny : n = g.y
      rotate_left
      · have HX := hide (prog_bad (g := g) (s := s) (die := die) (k := k) page l n HN.out fault (f := 2) (by unfold progF; rw [if_neg (fun h => h HF.out), if_neg hb4, if_pos (by rw [← HN.out]; exact hny)]) (by decide))
        have d5 : ((n : Int) != (g.y : Int)) = true := by simp; omega
        clear hb4 hny
        go_wp2_with fail
        go_ret
        exact ⟨by rw [HX.out.1]; rfl, by rw [HX.out.2]; exact HH.out, Keep.refl _ _⟩
      have d5 : ((n : Int) != (g.y : Int)) = false := by simp; omega
      have HNY := hide hny
      cases hbd : (s.blk M).bad with
      | true =>
        have HX := hide (prog_bad (g := g) (s := s) (die := die) (k := k) page l n HN.out fault (f := 6) (by unfold progF; rw [if_neg (fun h => h HF.out), if_neg hb4, if_neg (by rw [← HN.out]; exact fun h => h hny), if_pos (by rw [← HM.out]; exact hbd)]) (by decide))
        rw [hbd] at a3
        clear hbd hb4 hny
        go_wp2_with fail
        go_ret
        exact ⟨by rw [HX.out.1]; rfl, by rw [HX.out.2]; exact HH.out, Keep.refl _ _⟩
      | false =>
        rw [hbd] at a3
        by_cases hpn : page = ((s.blk M).nx : Int)
        rotate_left
        · have HX := hide (prog_bad (g := g) (s := s) (die := die) (k := k) page l n HN.out fault (f := 5) (by unfold progF; rw [if_neg (fun h => h HF.out), if_neg hb4, if_neg (by rw [← HN.out]; exact fun h => h hny), if_neg (by rw [← HM.out, hbd]; decide), if_pos (by rw [← HM.out]; exact hpn)]) (by decide))
          have d6 : (((s.blk M).nx : Int) != page) = true := by simp only [bne_iff_ne, ne_eq]; exact fun e => hpn e.symm
          clear hbd hb4 hny hpn
          go_wp2_with fail
          go_ret
          exact ⟨by rw [HX.out.1]; rfl, by rw [HX.out.2]; exact HH.out, Keep.refl _ _⟩
        have HX := hide (prog_ok (g := g) (s := s) (die := die) (k := k) page l n HN.out fault (by unfold progF; rw [if_neg (fun h => h HF.out), if_neg hb4, if_neg (by rw [← HN.out]; exact fun h => h hny), if_neg (by rw [← HM.out, hbd]; decide), if_neg (by rw [← HM.out]; exact fun h => h hpn)]))
        rw [← HM.out] at HX
        obtain ⟨P, rfl⟩ : ∃ P : Nat, page = P := ⟨page.toNat, by omega⟩
        have hP : P < g.p := by omega
        have HP : Hid ((s.blk M).nx = P) := hide (by omega)
        rw [HP.out] at a1
        have d6 : ((P : Int) != (P : Int)) = false := by simp
        have hfr : 0 ≤ fault ∧ fault ≤ 2 := by omega
        have HFR := hide hfr
        have fz := HH.out.hn.free M
        have HL0 := hide (RF.setNx HH.out M ((P : Int) + 1))
        have HK0 := hide (rkeep_set (r := r) (ga := ga) (gn := gn) (gw := gw) (gd := gd) w' (p := ⟨gn, M, none⟩) (.inr (.inr (.inl rfl))) (.int .i64 ((P : Int) + 1)))
        have c2' := RF.b2 HL0.out
        have c3' := RF.b3 HL0.out
        obtain ⟨m1, hm1⟩ : ∃ m1, m1 = M * g.p := ⟨_, rfl⟩
        obtain ⟨m2, hm2⟩ : ∃ m2, m2 = m1 + P := ⟨_, rfl⟩
        obtain ⟨m3, hm3⟩ : ∃ m3, m3 = m2 * g.y := ⟨_, rfl⟩
        have hsz := size_le hg
        have had := ad_lt (j := g.y - 1) HMN.out hP (by omega)
        have HAD : Hid (∀ j, ad g M P j = m3 + j) := hide (fun j => by unfold ad; rw [hm3, hm2, hm1])
        rw [HAD.out] at had
        have hm3b : m3 + g.y ≤ g.n * g.p * g.y := by omega
        have hm1b : m1 ≤ 1024 := by
          have h1 := Nat.mul_le_mul (Nat.le_of_lt (Nat.lt_of_lt_of_le HMN.out hg.n64)) hg.p16
          omega
        have q1 : IntKind.i64.wrap ((M : Int) * (g.p : Int)) = (m1 : Int) := by rw [← Int.natCast_mul, ← hm1, IntKind.wrap_i64]; omega
        have q2 : IntKind.i64.wrap ((m1 : Int) + (P : Int)) = (m2 : Int) := by rw [hm2, IntKind.wrap_i64]; omega
        have q3 : IntKind.i64.wrap ((m2 : Int) * (g.y : Int)) = (m3 : Int) := by rw [← Int.natCast_mul, ← hm3, IntKind.wrap_i64]; omega
        have HSZ := hide hsz
        obtain ⟨N, hN⟩ : ∃ N, N = g.n * g.p * g.y := ⟨_, rfl⟩
        have HNN := hide hN
        rw [← hN] at hm3b hsz
        clear hbd hb4 hny hpn hfr hm1 hm2 hm3 had hN
        go_wp2_with fail
        go_quiet (fail)
        go_wp2_with fail
        go_loopw [16] (fun i W => ∃ m, m ≤ n ∧ i = .int .i64 m ∧ Hid (PI w' W g r ga gn gw gd cap s M P m fault l)) (fun i _ => n - (intOf i).toNat)
        case atStart => exact ⟨0, by omega, rfl, hide (by unfold PI; exact ⟨((HL0.out.drewN _).congr (fun _ _ => rfl) (fun _ _ => rfl) (fun _ _ => rfl) (fun k' i' j' _ _ _ => pgF_zero s M P fault l k' i' j')), HK0.out.drewN _⟩)⟩
        case round =>
          obtain ⟨m, hm, rfl, HI⟩ := hrel
          by_cases hlt : m < n
          · have e1 : decide (m < n) = true := by simpa using hlt
            have e1' : decide ((m : Int) < (n : Int)) = true := by simp; omega
            obtain ⟨hh, hhd⟩ : ∃ hh, hh = n / 2 := ⟨_, rfl⟩
            have q4 : (n : Int) / 2 = (hh : Int) := by omega
            have q4' : (n : Int).tdiv 2 = (hh : Int) := by rw [half_nat, hhd]
            have HHD : Hid (hh = l.length / 2) := hide (by rw [hhd, HN.out])
            clear hhd
            have hmn : (m : Int) < (n : Int) := by omega
            have hjl : m < l.length := by rw [← HN.out]; exact hlt
            by_cases hc : fault = 0 ∨ m < hh
            · have HRF := hide (show RF wr _ _ _ _ _ _ _ _ _ _ _ _ from by have h := HI.out; unfold PI at h; exact h.1)
              have HKP := hide (show Keep _ w' wr from by have h := HI.out; unfold PI at h; exact h.2)
              have c4 := RF.b4 HRF.out
              rw [← HNN.out] at c4
              have hal := RF.all_ HRF.out (k := M) (i := P) (j := m) HMN.out hP (by rw [← HNY.out]; exact hlt)
              rw [HAD.out] at hal
              obtain ⟨u0, hu0⟩ : ∃ u0, u0 = pgF s M P m fault l M P m := ⟨_, rfl⟩
              rw [← hu0] at hal
              have ga0 := hal.1
              have ga1 := hal.2
              obtain ⟨bA, oA, hAA, cA⟩ := (HKP.out.rd HR.out HO.out).at_ (i := m) (by rw [u8v_length]; exact hjl)
              subst hAA
              have v2 : (u8v l)[m]'(by rw [u8v_length]; exact hjl) = .int .u8 (((l[m]'hjl).toNat : Nat) : Int) := by simp [u8v]
              rw [v2] at cA
              have HLD : Hid (l.getD m 0 = l[m]'hjl) := hide (by simp [List.getD_eq_getElem?_getD, hjl])
              obtain ⟨bv, hbv⟩ : ∃ bv, bv = (l[m]'hjl).toNat := ⟨_, rfl⟩
              rw [← hbv] at cA
              have q5 : IntKind.i64.wrap ((m3 : Int) + (m : Int)) = (m3 : Int) + (m : Int) := by rw [IntKind.wrap_i64]; have := HNY.out; omega
              have q6 : 0 ≤ (m3 : Int) + (m : Int) := by omega
              have q7 : (m3 : Int) + (m : Int) < (N : Int) := by have := HNY.out; omega
              have q8 : ((m3 : Int) + (m : Int)).toNat = m3 + m := by omega
              have HNEXT : Hid (PI w' (wr.setCell ⟨ga, m3 + m, none⟩ (.int .u8 (bv : Int))).drew g r ga gn gw gd cap s M P (m + 1) fault l) := hide (by
                unfold PI
                refine ⟨?_, (HKP.out.trans (rkeep_set (r := r) (ga := ga) (gn := gn) (gw := gw) (gd := gd) wr (p := ⟨ga, m3 + m, none⟩) (.inr (.inl rfl)) _)).drew⟩
                rw [← HAD.out]
                refine (RF.setAll HRF.out HMN.out hP (by rw [← HNY.out]; exact hlt) (bv : Int)).drew.congr (fun _ _ => rfl) (fun _ _ => rfl) (fun _ _ => rfl) (fun k' i' j' _ _ _ => ?_)
                rw [hbv, ← HLD.out]
                exact pgF_yes s M P m fault l (by rw [← HHD.out]; exact hc) k' i' j')
              have HBV := hide hbv
              clear hal v2 hu0 hbv
              by_cases hf0 : fault = 0
              · have t1 : (fault == 0) = true := by simpa using hf0
                clear hc hf0
                go_wp2_with fail
                go_region
                go_wp2_with fail
                go_roundw
                case rel => exact ⟨m + 1, by omega, by go_num, HNEXT⟩
                case measure => simp [intOf]; omega
              · have t1 : (fault == 0) = false := by simpa using hf0
                have t2 : decide (m < hh) = true := by simp; omega
                have t2' : decide ((m : Int) < (hh : Int)) = true := by simp; omega
                clear hc hf0
                go_wp2_with fail
                go_region
                go_wp2_with fail
                go_roundw
                case rel => exact ⟨m + 1, by omega, by go_num, HNEXT⟩
                case measure => simp [intOf]; omega
            · have t1 : (fault == 0) = false := by simp; omega
              have t2 : decide (m < hh) = false := by simp; omega
              have t2' : decide ((m : Int) < (hh : Int)) = false := by simp; omega
              have HNEXT : Hid (PI w' wr g r ga gn gw gd cap s M P (m + 1) fault l) := hide (by
                have h := HI.out
                unfold PI at h ⊢
                exact ⟨h.1.congr (fun _ _ => rfl) (fun _ _ => rfl) (fun _ _ => rfl) (fun k' i' j' _ _ _ => pgF_no s M P m fault l (by rw [← HHD.out]; exact hc) k' i' j'), h.2⟩)
              clear hc
              go_wp2_with fail
              go_roundw
              case rel => exact ⟨m + 1, by omega, by go_num, HNEXT⟩
              case measure => simp [intOf]; omega
          · have e1 : decide (m < n) = false := by simpa using hlt
            have e1' : decide ((m : Int) < (n : Int)) = false := by simp; omega
            obtain rfl : m = n := by omega
            have HRF := hide (show RF wr _ _ _ _ _ _ _ _ _ _ _ _ from by have h := HI.out; unfold PI at h; exact h.1)
            have HKP := hide (show Keep _ w' wr from by have h := HI.out; unfold PI at h; exact h.2)
            have HEND : Hid (∀ off W', RF W' g r ga gn gw gd cap off (upd (fun k => ((s.blk k).nx : Int)) M ((P : Int) + 1)) (fun k => ((s.blk k).wr : Int)) (fun k => (s.blk k).bad) (pgF s M P m fault l) → RAt W' g r ga gn gw gd cap ⟨off, upd s.blk M (progB (s.blk M) P l fault)⟩) := hide (by
              intro off W' h
              unfold RAt
              refine h.congr (fun k' _ => ?_) (fun k' _ => ?_) (fun k' _ => ?_) (fun k' i' j' _ _ hj => ?_)
              · by_cases e : k' = M
                · subst e; simp only [upd_eq]; unfold progB; simp only; rw [HP.out]; simp
                · simp only [upd_ne _ _ _ _ e]
              · by_cases e : k' = M
                · subst e; simp only [upd_eq]; rfl
                · simp only [upd_ne _ _ _ _ e]
              · by_cases e : k' = M
                · subst e; simp only [upd_eq]; rfl
                · simp only [upd_ne _ _ _ _ e]
              · have hjl : j' < l.length := by rw [← HN.out, HNY.out]; exact hj
                rw [HN.out]
                exact pgF_end s M P fault l off _ rfl k' i' j' hjl)
            have hfc : fault = 0 ∨ fault = 1 ∨ fault = 2 := by have := HFR.out; omega
            rcases hfc with rfl | rfl | rfl
            · go_wp2_with fail
              go_ret
              exact ⟨by rw [HX.out.1]; rfl, by rw [HX.out.2]; exact HEND.out _ _ (by have h := HRF.out; rw [HOFF.out] at h; exact h), HKP.out⟩
            · go_wp2_with fail
              go_ret
              exact ⟨by rw [HX.out.1]; rfl, by rw [HX.out.2]; exact HEND.out _ _ (by have h := HRF.out; rw [HOFF.out] at h; exact h), HKP.out⟩
            · have f8 := HRF.out.box.free 8
              have c8 := RF.b8 HRF.out
              have HS := hide (RF.setOff HRF.out true)
              have HKS := hide (HKP.out.trans (rkeep_set (r := r) (ga := ga) (gn := gn) (gw := gw) (gd := gd) wr (p := ⟨r, 8, none⟩) (.inl rfl) (.bool true)))
              go_wp2_with fail
              go_ret
              exact ⟨by rw [HX.out.1]; rfl, by rw [HX.out.2]; exact HEND.out _ _ HS.out, HKS.out⟩
end Go.Proofs.YtbldjiofchaigaaDoor.ChipW
