/- How the document's chip lies in memory; its Fault. -/
import Derived.Test.YtbldjiofchaigaaDoorChipI
set_option linter.unusedVariables false
namespace Go.Proofs.YtbldjiofchaigaaDoor.ChipW
open Go.RowKit ChipP CopyW ToldW

/-- Where a byte lies. -/
def ad (g : Geo) (k i j : Nat) : Nat := (k * g.p + i) * g.y + j
theorem ad_inj {g : Geo} {k i j k' i' j' : Nat} (hi : i < g.p) (hj : j < g.y) (hi' : i' < g.p) (hj' : j' < g.y) (h : ad g k i j = ad g k' i' j') : k = k' ∧ i = i' ∧ j = j' := by
  unfold ad at h
  have hy : 0 < g.y := by omega
  have hp : 0 < g.p := by omega
  have e1 : ((k * g.p + i) * g.y + j) / g.y = k * g.p + i := by rw [Nat.add_comm, Nat.add_mul_div_right _ _ hy, Nat.div_eq_of_lt hj, Nat.zero_add]
  have e2 : ((k' * g.p + i') * g.y + j') / g.y = k' * g.p + i' := by rw [Nat.add_comm, Nat.add_mul_div_right _ _ hy, Nat.div_eq_of_lt hj', Nat.zero_add]
  have e3 : k * g.p + i = k' * g.p + i' := by rw [← e1, ← e2, h]
  have e4 : (k * g.p + i) / g.p = k := by rw [Nat.add_comm, Nat.add_mul_div_right _ _ hp, Nat.div_eq_of_lt hi, Nat.zero_add]
  have e5 : (k' * g.p + i') / g.p = k' := by rw [Nat.add_comm, Nat.add_mul_div_right _ _ hp, Nat.div_eq_of_lt hi', Nat.zero_add]
  have e6 : k = k' := by rw [← e4, ← e5, e3]
  subst e6
  have e7 : i = i' := by omega
  subst e7
  exact ⟨rfl, rfl, by omega⟩
theorem ad_lt {g : Geo} {k i j : Nat} (hk : k < g.n) (hi : i < g.p) (hj : j < g.y) : ad g k i j < g.n * g.p * g.y := by
  unfold ad
  have h1 := Nat.mul_le_mul_right g.p (show k + 1 ≤ g.n by omega)
  rw [Nat.add_mul, Nat.one_mul] at h1
  have h2 := Nat.mul_le_mul_right g.y (show k * g.p + i + 1 ≤ g.n * g.p by omega)
  rw [Nat.add_mul, Nat.one_mul] at h2
  omega
theorem ad_blk (g : Geo) (k i j : Nat) : ad g k i j = k * (g.p * g.y) + (i * g.y + j) := by
  unfold ad
  rw [Nat.add_mul, Nat.mul_assoc, Nat.add_assoc]
theorem in_blk {g : Geo} {i j : Nat} (hi : i < g.p) (hj : j < g.y) : i * g.y + j < g.p * g.y := by
  have h2 := Nat.mul_le_mul_right g.y (show i + 1 ≤ g.p by omega)
  rw [Nat.add_mul, Nat.one_mul] at h2
  omega
theorem size_le {g : Geo} (hg : g.Ok) : g.n * g.p * g.y ≤ 262144 := by
  have h1 := Nat.mul_le_mul (Nat.mul_le_mul hg.n64 hg.p16) hg.y256
  omega

def rbox (g : Geo) (ga gn gw gd cap : Nat) (off : Bool) : Array Value := #[.int .i64 g.d, .int .i64 g.b, .int .i64 g.p, .int .i64 g.y, .slice (some ⟨ga, 0, none⟩) (g.n * g.p * g.y) cap, .slice (some ⟨gn, 0, none⟩) g.n g.n, .slice (some ⟨gw, 0, none⟩) g.n g.n, .slice (some ⟨gd, 0, none⟩) g.n g.n, .bool off]
structure RF (w : World) (g : Geo) (r ga gn gw gd cap : Nat) (off : Bool) (nx wr : Nat → Int) (bad : Nat → Bool) (f : Nat → Nat → Nat → Int) : Prop where
  box : Bk w r 59 (rbox g ga gn gw gd cap off)
  all : ∃ cs, Bk w ga 5 cs ∧ g.n * g.p * g.y ≤ cs.size ∧ ∀ k i j, k < g.n → i < g.p → j < g.y → cs[ad g k i j]? = some (.int .u8 (f k i j))
  hn : Bk w gn 3 (rowF g.n (fun k => .int .i64 (nx k)))
  hw : Bk w gw 3 (rowF g.n (fun k => .int .i64 (wr k)))
  hd : Bk w gd 4 (rowF g.n (fun k => .bool (bad k)))
  ne : gn ≠ gw
  hc : g.n * g.p * g.y ≤ cap
/-- The blocks of the document's chip. -/
def RB (r ga gn gw gd : Nat) (j : Nat) : Prop := j = r ∨ j = ga ∨ j = gn ∨ j = gw ∨ j = gd
def byt (s : St) (k i j : Nat) : Int := ((((s.blk k).pg i).getD j 0).toNat : Int)
def RAt (w : World) (g : Geo) (r ga gn gw gd cap : Nat) (s : St) : Prop := RF w g r ga gn gw gd cap s.off (fun k => ((s.blk k).nx : Int)) (fun k => ((s.blk k).wr : Int)) (fun k => (s.blk k).bad) (byt s)
section
variable {w w' : World} {g : Geo} {r ga gn gw gd cap : Nat} {off : Bool} {nx wr : Nat → Int} {bad : Nat → Bool} {f : Nat → Nat → Nat → Int}
theorem RF.congr (h : RF w g r ga gn gw gd cap off nx wr bad f) {nx' wr' : Nat → Int} {bad' : Nat → Bool} {f' : Nat → Nat → Nat → Int} (h1 : ∀ k, k < g.n → nx k = nx' k) (h2 : ∀ k, k < g.n → wr k = wr' k) (h3 : ∀ k, k < g.n → bad k = bad' k)
    (h4 : ∀ k i j, k < g.n → i < g.p → j < g.y → f k i j = f' k i j) : RF w g r ga gn gw gd cap off nx' wr' bad' f' :=
  { h with
    all := by
      obtain ⟨cs, a, b, c⟩ := h.all
      exact ⟨cs, a, b, fun k i j hk hi hj => by rw [c k i j hk hi hj, h4 k i j hk hi hj]⟩
    hn := by rw [← rowF_congr (f := fun k => .int .i64 (nx k)) (fun k hk => by rw [h1 k hk])]; exact h.hn
    hw := by rw [← rowF_congr (f := fun k => .int .i64 (wr k)) (fun k hk => by rw [h2 k hk])]; exact h.hw
    hd := by rw [← rowF_congr (f := fun k => .bool (bad k)) (fun k hk => by rw [h3 k hk])]; exact h.hd }
theorem RF.keep (h : RF w g r ga gn gw gd cap off nx wr bad f) (hs : ∀ j, RB r ga gn gw gd j → j < w.heap.size → w'.heap[j]? = w.heap[j]?) : RF w' g r ga gn gw gd cap off nx wr bad f :=
  { h with
    box := (hs r (.inl rfl) h.box.lt).trans h.box
    all := by
      obtain ⟨cs, a, b, c⟩ := h.all
      exact ⟨cs, (hs ga (.inr (.inl rfl)) a.lt).trans a, b, c⟩
    hn := (hs gn (.inr (.inr (.inl rfl))) h.hn.lt).trans h.hn
    hw := (hs gw (.inr (.inr (.inr (.inl rfl)))) h.hw.lt).trans h.hw
    hd := (hs gd (.inr (.inr (.inr (.inr rfl)))) h.hd.lt).trans h.hd }
theorem RF.below (h : RF w g r ga gn gw gd cap off nx wr bad f) (hb : Below w.heap.size w w') : RF w' g r ga gn gw gd cap off nx wr bad f := h.keep fun j _ hl => hb.block j hl
theorem RF.drewN (h : RF w g r ga gn gw gd cap off nx wr bad f) (n : Nat) : RF (w.drewN n) g r ga gn gw gd cap off nx wr bad f := h.keep fun _ _ _ => rfl
theorem RF.setOff (h : RF w g r ga gn gw gd cap off nx wr bad f) (v : Bool) : RF (w.setCell ⟨r, 8, none⟩ (.bool v)) g r ga gn gw gd cap v nx wr bad f :=
  { h with
    box := h.box.put 8 (.bool v)
    all := by
      obtain ⟨cs, a, b, c⟩ := h.all
      exact ⟨cs, a.far (bk_ne a h.box (by decide)) _, b, c⟩
    hn := h.hn.far (bk_ne h.hn h.box (by decide)) _
    hw := h.hw.far (bk_ne h.hw h.box (by decide)) _
    hd := h.hd.far (bk_ne h.hd h.box (by decide)) _ }
theorem RF.setNx (h : RF w g r ga gn gw gd cap off nx wr bad f) (k : Nat) (v : Int) : RF (w.setCell ⟨gn, k, none⟩ (.int .i64 v)) g r ga gn gw gd cap off (upd nx k v) wr bad f :=
  { h with
    box := h.box.far (bk_ne h.box h.hn (by decide)) _
    all := by
      obtain ⟨cs, a, b, c⟩ := h.all
      exact ⟨cs, a.far (bk_ne a h.hn (by decide)) _, b, c⟩
    hn := by
      have h1 := h.hn.put k (.int .i64 v)
      rw [rowF_set, rowF_congr (h := fun j => .int .i64 (upd nx k v j)) (fun j _ => by
        by_cases e : j = k
        · rw [e, upd_eq, upd_eq]
        · rw [upd_ne _ _ _ _ e, upd_ne _ _ _ _ e])] at h1
      exact h1
    hw := h.hw.far (fun e => h.ne e.symm) _
    hd := h.hd.far (bk_ne h.hd h.hn (by decide)) _ }
theorem RF.setWr (h : RF w g r ga gn gw gd cap off nx wr bad f) (k : Nat) (v : Int) : RF (w.setCell ⟨gw, k, none⟩ (.int .i64 v)) g r ga gn gw gd cap off nx (upd wr k v) bad f :=
  { h with
    box := h.box.far (bk_ne h.box h.hw (by decide)) _
    all := by
      obtain ⟨cs, a, b, c⟩ := h.all
      exact ⟨cs, a.far (bk_ne a h.hw (by decide)) _, b, c⟩
    hn := h.hn.far h.ne _
    hw := by
      have h1 := h.hw.put k (.int .i64 v)
      rw [rowF_set, rowF_congr (h := fun j => .int .i64 (upd wr k v j)) (fun j _ => by
        by_cases e : j = k
        · rw [e, upd_eq, upd_eq]
        · rw [upd_ne _ _ _ _ e, upd_ne _ _ _ _ e])] at h1
      exact h1
    hd := h.hd.far (bk_ne h.hd h.hw (by decide)) _ }
theorem RF.setBad (h : RF w g r ga gn gw gd cap off nx wr bad f) (k : Nat) (v : Bool) : RF (w.setCell ⟨gd, k, none⟩ (.bool v)) g r ga gn gw gd cap off nx wr (upd bad k v) f :=
  { h with
    box := h.box.far (bk_ne h.box h.hd (by decide)) _
    all := by
      obtain ⟨cs, a, b, c⟩ := h.all
      exact ⟨cs, a.far (bk_ne a h.hd (by decide)) _, b, c⟩
    hn := h.hn.far (bk_ne h.hn h.hd (by decide)) _
    hw := h.hw.far (bk_ne h.hw h.hd (by decide)) _
    hd := by
      have h1 := h.hd.put k (.bool v)
      rw [rowF_set, rowF_congr (h := fun j => .bool (upd bad k v j)) (fun j _ => by
        by_cases e : j = k
        · rw [e, upd_eq, upd_eq]
        · rw [upd_ne _ _ _ _ e, upd_ne _ _ _ _ e])] at h1
      exact h1 }
theorem RF.setAll (h : RF w g r ga gn gw gd cap off nx wr bad f) {k i j : Nat} (hk : k < g.n) (hi : i < g.p) (hj : j < g.y) (v : Int) : RF (w.setCell ⟨ga, ad g k i j, none⟩ (.int .u8 v)) g r ga gn gw gd cap off nx wr bad (fun k' i' j' => if k' = k ∧ i' = i ∧ j' = j then v else f k' i' j') := by
  obtain ⟨cs, a, b, c⟩ := h.all
  exact { h with
    box := h.box.far (bk_ne h.box a (by decide)) _
    all := ⟨cs.setIfInBounds (ad g k i j) (.int .u8 v), a.put _ _, by rw [Array.size_setIfInBounds]; exact b, fun k' i' j' hk' hi' hj' => by
      rw [Array.getElem?_setIfInBounds]
      by_cases e : ad g k i j = ad g k' i' j'
      · obtain ⟨e1, e2, e3⟩ := ad_inj hi hj hi' hj' e
        rw [if_pos e, if_pos (Nat.lt_of_lt_of_le (ad_lt hk hi hj) b), if_pos ⟨e1.symm, e2.symm, e3.symm⟩]
      · rw [if_neg e, if_neg (fun h => e (by rw [h.1, h.2.1, h.2.2])), c k' i' j' hk' hi' hj']⟩
    hn := h.hn.far (bk_ne h.hn a (by decide)) _
    hw := h.hw.far (bk_ne h.hw a (by decide)) _
    hd := h.hd.far (bk_ne h.hd a (by decide)) _ }
/-- What its calls leave of others. -/
theorem rkeep_set (w : World) {p : Addr} (hp : RB r ga gn gw gd p.block) (u : Value) : Keep (fun j => ¬ RB r ga gn gw gd j) w (w.setCell p u) := Keep.set w (fun h => h hp) u
end

set_option maxHeartbeats 2000000 in
theorem rfault_any {w : World} {g : Geo} {r ga gn gw gd cap : Nat} {s : St} (h : RAt w g r ga gn gw gd cap s) (hg : g.Ok) (die k : Int) :
    Calls Tryd.prog 31 #[ptr r, .int .i64 die, .int .i64 k] w fun e w' => w' = w ∧ ((atF g s die k ≠ 0 ∧ e = .returned (.tuple #[.int .i64 0, .int .i64 (atF g s die k)])) ∨ (atF g s die k = 0 ∧ e = .returned (.tuple #[.int .i64 (ix g die k : Int), .int .i64 0]))) := by
  have c0 := h.box.at_ (i := 0) (u := .int .i64 (g.d : Int)) rfl
  have c1 := h.box.at_ (i := 1) (u := .int .i64 (g.b : Int)) rfl
  have c8 := h.box.at_ (i := 8) (u := .bool s.off) rfl
  unfold ptr
  clear h
  cases hoff : s.off with
  | true =>
    have HF : Hid (atF g s die k = 7) := hide (by unfold atF; rw [if_pos hoff])
    rw [hoff] at c8
    clear hoff
    go_enter Tryd.func31, Tryd.ntmps31
    go_wp2_with fail
    go_ret2
    exact ⟨rfl, .inl ⟨by rw [HF.out]; decide, by rw [HF.out]; rfl⟩⟩
  | false =>
    rw [hoff] at c8
    by_cases hr : die < 0 ∨ (g.d : Int) ≤ die ∨ k < 0 ∨ (g.b : Int) ≤ k
    · have HF : Hid (atF g s die k = 1) := hide (by unfold atF; rw [if_neg (by rw [hoff]; decide), if_pos hr])
      have hbad := four_bad hr
      generalize g.d = D at *
      generalize g.b = Bn at *
      clear hoff hr
      rcases hbad with hbad | hbad | hbad | hbad
      · have d1 : decide (die < 0) = true := decide_eq_true (by omega)
        go_enter Tryd.func31, Tryd.ntmps31
        go_wp2_with fail
        go_ret2
        exact ⟨rfl, .inl ⟨by rw [HF.out]; decide, by rw [HF.out]; rfl⟩⟩
      · have d1 : decide (die < 0) = false := decide_eq_false (by omega)
        have d2 : decide (die ≥ (D : Int)) = true := decide_eq_true (by omega)
        go_enter Tryd.func31, Tryd.ntmps31
        go_wp2_with fail
        go_ret2
        exact ⟨rfl, .inl ⟨by rw [HF.out]; decide, by rw [HF.out]; rfl⟩⟩
      · have d1 : decide (die < 0) = false := decide_eq_false (by omega)
        have d2 : decide (die ≥ (D : Int)) = false := decide_eq_false (by omega)
        have d3 : decide (k < 0) = true := decide_eq_true (by omega)
        go_enter Tryd.func31, Tryd.ntmps31
        go_wp2_with fail
        go_ret2
        exact ⟨rfl, .inl ⟨by rw [HF.out]; decide, by rw [HF.out]; rfl⟩⟩
      · have d1 : decide (die < 0) = false := decide_eq_false (by omega)
        have d2 : decide (die ≥ (D : Int)) = false := decide_eq_false (by omega)
        have d3 : decide (k < 0) = false := decide_eq_false (by omega)
        have d4 : decide (k ≥ (Bn : Int)) = true := decide_eq_true (by omega)
        go_enter Tryd.func31, Tryd.ntmps31
        go_wp2_with fail
        go_ret2
        exact ⟨rfl, .inl ⟨by rw [HF.out]; decide, by rw [HF.out]; rfl⟩⟩
    · have HF : Hid (atF g s die k = 0) := hide (by unfold atF; rw [if_neg (by rw [hoff]; decide), if_neg hr])
      obtain ⟨D, rfl⟩ : ∃ D : Nat, die = D := ⟨die.toNat, by omega⟩
      obtain ⟨K, rfl⟩ : ∃ K : Nat, k = K := ⟨k.toNat, by omega⟩
      have hn64 := hg.n64
      have hlt : ix g (D : Int) (K : Int) < g.n := ix_lt (by omega) (by omega) (by omega) (by omega)
      have e1 : (D : Int) * (g.b : Int) = ((D * g.b : Nat) : Int) := (Int.natCast_mul D g.b).symm
      have e2 : ix g (D : Int) (K : Int) = D * g.b + K := rfl
      rw [e2] at hlt
      obtain ⟨m, hm⟩ : ∃ m, m = D * g.b := ⟨_, rfl⟩
      rw [← hm] at e1 hlt e2
      have HE2 := hide e2
      have d1 : decide ((D : Int) < 0) = false := decide_eq_false (by omega)
      have d2 : decide (g.d ≤ D) = false := decide_eq_false (by omega)
      have d3 : decide ((K : Int) < 0) = false := decide_eq_false (by omega)
      have d4 : decide (g.b ≤ K) = false := decide_eq_false (by omega)
      have q1 : IntKind.i64.wrap ((D : Int) * (g.b : Int)) = (m : Int) := by rw [e1, IntKind.wrap_i64]; omega
      have q1' : wrap64 ((D : Int) * (g.b : Int)) = (m : Int) := by rw [e1]; unfold wrap64; omega
      have hmm : m ≤ 64 := by omega
      have hKK : K ≤ 16 := by have := hg.b16; omega
      clear hoff hr e1 e2 hm hlt
      go_enter Tryd.func31, Tryd.ntmps31
      go_wp2_with fail
      go_ret2
      exact ⟨rfl, .inr ⟨HF.out, by rw [HE2.out]; rfl⟩⟩
end Go.Proofs.YtbldjiofchaigaaDoor.ChipW
