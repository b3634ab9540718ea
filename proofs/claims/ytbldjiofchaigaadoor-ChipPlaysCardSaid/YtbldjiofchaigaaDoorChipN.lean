/- The walk of chip.New. -/
import Derived.Test.YtbldjiofchaigaaDoorChipE
set_option linter.unusedVariables false
namespace Go.Proofs.YtbldjiofchaigaaDoor.ChipW
open Go.RowKit ChipP CopyW

def geoV (d b p y : Int) : Value := .agg #[.int .i64 d, .int .i64 b, .int .i64 p, .int .i64 y]
def NewPost (w : World) (O : Nat → Prop) (d b p y : Int) (e : Ending) (w' : World) : Prop :=
  Below w.heap.size w w' ∧ ((badG d b p y ∧ e = .returned (.tuple #[.pointer none, errR 1])) ∨
    (¬ badG d b p y ∧ ∃ c, e = .returned (.tuple #[ptr c, .nilIface]) ∧ ChipAt w' O c ⟨d.toNat, b.toNat, p.toNat, y.toNat⟩ (newS ⟨d.toNat, b.toNat, p.toNat, y.toNat⟩)))
theorem nine_bad {d b p y : Int} (h : badG d b p y) : (d < 1) ∨ (¬ d < 1 ∧ 4 < d) ∨ (¬ d < 1 ∧ ¬ 4 < d ∧ b < 1) ∨ (¬ d < 1 ∧ ¬ 4 < d ∧ ¬ b < 1 ∧ 16 < b) ∨ (¬ d < 1 ∧ ¬ 4 < d ∧ ¬ b < 1 ∧ ¬ 16 < b ∧ p < 1) ∨ (¬ d < 1 ∧ ¬ 4 < d ∧ ¬ b < 1 ∧ ¬ 16 < b ∧ ¬ p < 1 ∧ 16 < p) ∨ (¬ d < 1 ∧ ¬ 4 < d ∧ ¬ b < 1 ∧ ¬ 16 < b ∧ ¬ p < 1 ∧ ¬ 16 < p ∧ y < 8) ∨ (¬ d < 1 ∧ ¬ 4 < d ∧ ¬ b < 1 ∧ ¬ 16 < b ∧ ¬ p < 1 ∧ ¬ 16 < p ∧ ¬ y < 8 ∧ 256 < y) ∨ (¬ d < 1 ∧ ¬ 4 < d ∧ ¬ b < 1 ∧ ¬ 16 < b ∧ ¬ p < 1 ∧ ¬ 16 < p ∧ ¬ y < 8 ∧ ¬ 256 < y ∧ y % 8 ≠ 0) := by
  unfold badG at h
  by_cases c0 : d < 1
  · exact .inl c0
  by_cases c1 : 4 < d
  · exact .inr (.inl ⟨c0, c1⟩)
  by_cases c2 : b < 1
  · exact .inr (.inr (.inl ⟨c0, c1, c2⟩))
  by_cases c3 : 16 < b
  · exact .inr (.inr (.inr (.inl ⟨c0, c1, c2, c3⟩)))
  by_cases c4 : p < 1
  · exact .inr (.inr (.inr (.inr (.inl ⟨c0, c1, c2, c3, c4⟩))))
  by_cases c5 : 16 < p
  · exact .inr (.inr (.inr (.inr (.inr (.inl ⟨c0, c1, c2, c3, c4, c5⟩)))))
  by_cases c6 : y < 8
  · exact .inr (.inr (.inr (.inr (.inr (.inr (.inl ⟨c0, c1, c2, c3, c4, c5, c6⟩))))))
  by_cases c7 : 256 < y
  · exact .inr (.inr (.inr (.inr (.inr (.inr (.inr (.inl ⟨c0, c1, c2, c3, c4, c5, c6, c7⟩)))))))
  exact .inr (.inr (.inr (.inr (.inr (.inr (.inr (.inr (⟨c0, c1, c2, c3, c4, c5, c6, c7, (by rcases h with h | h | h | h | h | h | h | h | h <;> first | exact h | exact absurd h (by assumption))⟩))))))))
def zcell (j : Nat) : Value := if j % 4 = 0 then .slice none 0 0 else if j % 4 = 1 then .int .i64 0 else if j % 4 = 2 then .int .i64 0 else .bool false
theorem made_blk (n : Nat) : madeCells #[.slice none 0 0, .int .i64 0, .int .i64 0, .bool false] n = rowF n zcell := by
  unfold madeCells rowF
  apply Array.ext'
  rw [Array.toList_map, Array.toList_range]
  refine List.map_congr_left fun j _ => ?_
  unfold zcell
  obtain h | h | h | h : j % 4 = 0 ∨ j % 4 = 1 ∨ j % 4 = 2 ∨ j % 4 = 3 := by omega
  all_goals simp [h]
theorem made_nil (n : Nat) : madeCells #[.slice none 0 0] n = rowF n (fun _ => .slice none 0 0) := by
  unfold madeCells rowF
  apply Array.ext'
  rw [Array.toList_map, Array.toList_range]
  refine List.map_congr_left fun j _ => ?_
  simp [Nat.mod_one]
theorem blk_info : (Tryd.prog.info? 63).map (fun i => (i.zero, i.size, i.bytes)) = some (some (.agg #[.slice none 0 0, .int .i64 0, .int .i64 0, .bool false]), 4, 48) := by kernel_rfl
theorem pgs_info : (Tryd.prog.info? 33).map (fun i => (i.zero, i.size, i.bytes)) = some (some (.slice none 0 0), 1, 24) := by kernel_rfl
theorem byt_info : (Tryd.prog.info? 5).map (fun i => (i.zero, i.size, i.bytes)) = some (some (.int .u8 0), 1, 1) := by kernel_rfl
theorem info3 {t : TypeId} {z : Value} {s b : Nat} (h : (Tryd.prog.info? t).map (fun i => (i.zero, i.size, i.bytes)) = some (some z, s, b)) : ∃ i, Tryd.prog.info? t = some i ∧ i.zero = some z ∧ i.size = s ∧ i.bytes = b := by
  cases hi : Tryd.prog.info? t with
  | none => rw [hi] at h; cases h
  | some i =>
    rw [hi] at h
    simp only [Option.map_some, Option.some.injEq, Prod.mk.injEq] at h
    exact ⟨i, rfl, h.1, h.2.1, h.2.2⟩
theorem make_blks (n : Nat) (hn : n ≤ 64) (w : World) : (Instr.makeSlice 39 (.int .i64 (n : Int)) (.int .i64 (n : Int))).run Tryd.prog w = .ok (.slice (some ⟨w.heap.size, 0, none⟩) n n) (w.alloc (.cells (rowF (n * 4) zcell) 63)) := by
  obtain ⟨i, hi, hz, hs, hb⟩ := info3 blk_info
  rw [run_make (P := Tryd.prog) w 39 63 i _ Tryd.underlying39 hi hz .i64 .i64 n n (by omega) (by omega) (by rw [hb]; omega) (by omega), hs, Int.toNat_natCast, ← made_blk]
  rfl
theorem make_pgs (n : Nat) (hn : n ≤ 64) (w : World) : (Instr.makeSlice 61 (.int .i64 (n : Int)) (.int .i64 (n : Int))).run Tryd.prog w = .ok (.slice (some ⟨w.heap.size, 0, none⟩) n n) (w.alloc (.cells (rowF n (fun _ => .slice none 0 0)) 33)) := by
  obtain ⟨i, hi, hz, hs, hb⟩ := info3 pgs_info
  rw [run_make (P := Tryd.prog) w 61 33 i _ Tryd.underlying61 hi hz .i64 .i64 n n (by omega) (by omega) (by rw [hb]; omega) (by omega), hs, Int.toNat_natCast, ← made_nil, Nat.mul_one]
  rfl
theorem make_byt (n : Nat) (hn : n ≤ 256) (w : World) : (Instr.makeSlice 33 (.int .i64 (n : Int)) (.int .i64 (n : Int))).run Tryd.prog w = .ok (.slice (some ⟨w.heap.size, 0, none⟩) n n) (w.alloc (.cells (madeCells #[.int .u8 0] n) 5)) := by
  obtain ⟨i, hi, hz, hs, hb⟩ := info3 byt_info
  rw [run_make (P := Tryd.prog) w 33 5 i _ Tryd.underlying33 hi hz .i64 .i64 n n (by omega) (by omega) (by rw [hb]; omega) (by omega), hs, Int.toNat_natCast, Nat.mul_one]
  rfl

theorem cell_grown {w w' : World} {r x i : Nat} {u : Value} (hg : w.grownBy w' (some r)) (h : w.cell? ⟨x, i, none⟩ = some u) (hne : x ≠ r) : w'.cell? ⟨x, i, none⟩ = some u :=
  (World.cell?_of_block (hg.block x (World.block_lt_of_cell? w _ h) (fun e => hne (by injection e)))).trans h
theorem cell_alloc {w : World} {x i : Nat} {u : Value} (o : Obj) (h : w.cell? ⟨x, i, none⟩ = some u) : (w.alloc o).cell? ⟨x, i, none⟩ = some u :=
  (World.cell?_of_block (Below.heap_alloc w o x (World.block_lt_of_cell? w _ h))).trans h

/-- A chip of which m blocks are made. -/
structure NewL (w W : World) (g : Geo) (c bb gb : Nat) (pb : Nat → Nat) (qb : Nat → Nat → Nat) (m : Nat) : Prop where
  geo : Bk W gb 23 #[.int .i64 g.d, .int .i64 g.b, .int .i64 g.p, .int .i64 g.y]
  box : Bk W c 41 (boxC g bb false)
  arr : Bk W bb 63 (rowF (g.n * 4) (fun j => if j / 4 < m then bcell g pb (newS g).blk j else zcell j))
  pgs : ∀ k, k < m → Bk W (pb k) 33 (rowF g.p (fun i => pgs g (qb k i)))
  pag : ∀ k i, k < m → i < g.p → ∃ tl : List Value, Bk W (qb k i) 5 (u8v (List.replicate g.y 255) ++ tl).toArray
  fc : w.heap.size ≤ c
  fb : w.heap.size ≤ bb
  fp : ∀ k, k < m → w.heap.size ≤ pb k
  fq : ∀ k i, k < m → i < g.p → w.heap.size ≤ qb k i
  inj1 : ∀ k k', k < m → k' < m → pb k = pb k' → k = k'
  inj2 : ∀ k i k' i', k < m → i < g.p → k' < m → i' < g.p → qb k i = qb k' i' → k = k' ∧ i = i'
  low : Below w.heap.size w W
theorem NewL.done {w W : World} {O : Nat → Prop} {g : Geo} {c bb gb : Nat} {pb : Nat → Nat} {qb : Nat → Nat → Nat} (h : NewL w W g c bb gb pb qb g.n) (hO : ∀ j, O j → j < w.heap.size) : ChipAt W O c g (newS g) :=
  have no : ∀ j, w.heap.size ≤ j → ¬ O j := fun j hj ho => by have := hO j ho; omega
  ⟨bb, pb, qb, { box := h.box
                 arr := by
                   have h1 := h.arr
                   rw [rowF_congr (h := bcell g pb (newS g).blk) (fun j hj => if_pos (by omega))] at h1
                   exact h1
                 pgs := h.pgs
                 pag := h.pag
                 len := fun _ _ _ _ => List.length_replicate
                 oc := no _ h.fc
                 ob := no _ h.fb
                 op := fun k hk => no _ (h.fp k hk)
                 oq := fun k i hk hi => no _ (h.fq k i hk hi)
                 inj1 := h.inj1
                 inj2 := h.inj2 }⟩
theorem NewL.step {w W Wa W' : World} {g : Geo} {c bb gb : Nat} {pb : Nat → Nat} {qb : Nat → Nat → Nat} {m pk : Nat} (h : NewL w W g c bb gb pb qb m) (hm : m < g.n) (ha : Below W.heap.size W Wa) (hpk : W.heap.size ≤ pk) (hpl : pk < Wa.heap.size)
    (hg : (Wa.setCell ⟨bb, m * 4, none⟩ (.slice (some ⟨pk, 0, none⟩) g.p g.p)).grownBy W' (some pk)) (q : Nat → Nat) (hp : Bk W' pk 33 (rowF g.p (fun i => ChipW.pgs g (q i))))
    (hq : ∀ i, i < g.p → Wa.heap.size ≤ q i ∧ ∃ tl : List Value, Bk W' (q i) 5 (u8v (List.replicate g.y 255) ++ tl).toArray) (hi : ∀ i i', i < g.p → i' < g.p → q i = q i' → i = i') : NewL w W' g c bb gb (upd pb m pk) (upd qb m q) (m + 1) := by
  have far : ∀ {x : Nat} {t : TypeId} {cs : Array Value}, Bk W x t cs → x ≠ bb → Bk W' x t cs := fun {x t cs} hx hne => ((hx.below ha hx.lt).far (p := ⟨bb, m * 4, none⟩) hne _).grown hg (fun e => by injection e with e; have := hx.lt; omega)
  have hlt : ∀ k, k < m → pb k < W.heap.size := fun k hk => (h.pgs k hk).lt
  have qlt : ∀ k i, k < m → i < g.p → qb k i < W.heap.size := fun k i hk hi => by
    obtain ⟨tl, ht⟩ := h.pag k i hk hi
    exact ht.lt
  have hsz := h.low.size
  have hsa := ha.size
  have hbl := h.arr.lt
  exact {
    geo := far h.geo (bk_ne h.geo h.arr (by decide))
    box := far h.box (bk_ne h.box h.arr (by decide))
    arr := by
      have h1 := (h.arr.below ha hbl).put (m * 4) (.slice (some ⟨pk, 0, none⟩) g.p g.p)
      rw [rowF_set] at h1
      rw [rowF_congr (h := fun j => if j / 4 < m + 1 then bcell g (upd pb m pk) (newS g).blk j else zcell j) (fun j _ => by
        by_cases e : j = m * 4
        · rw [e, upd_eq, if_pos (by omega), bcell0, upd_eq]
        · rw [upd_ne _ _ _ _ e]
          by_cases e1 : j / 4 < m
          · rw [if_pos e1, if_pos (by omega)]
            unfold bcell
            rw [upd_ne _ _ _ _ (by omega)]
          · rw [if_neg e1]
            by_cases e2 : j / 4 < m + 1
            · rw [if_pos e2]
              obtain h' | h' | h' : j = m * 4 + 1 ∨ j = m * 4 + 2 ∨ j = m * 4 + 3 := by omega
              · rw [h', bcell1]; unfold zcell; rw [if_neg (by omega), if_pos (by omega)]; rfl
              · rw [h', bcell2]; unfold zcell; rw [if_neg (by omega), if_neg (by omega), if_pos (by omega)]; rfl
              · rw [h', bcell3]; unfold zcell; rw [if_neg (by omega), if_neg (by omega), if_neg (by omega)]; rfl
            · rw [if_neg e2])] at h1
      exact h1.grown hg (fun e => by injection e with e; omega)
    pgs := fun k hk => by
      by_cases e : k = m
      · subst e
        rw [upd_eq, upd_eq]
        exact hp
      · rw [upd_ne _ _ _ _ e, upd_ne _ _ _ _ e]
        exact far (h.pgs k (by omega)) (bk_ne (h.pgs k (by omega)) h.arr (by decide))
    pag := fun k i hk hi' => by
      by_cases e : k = m
      · subst e
        rw [upd_eq]
        exact (hq i hi').2
      · rw [upd_ne _ _ _ _ e]
        obtain ⟨tl, ht⟩ := h.pag k i (by omega) hi'
        exact ⟨tl, far ht (bk_ne ht h.arr (by decide))⟩
    fc := h.fc
    fb := h.fb
    fp := fun k hk => by
      by_cases e : k = m
      · rw [e, upd_eq]; omega
      · rw [upd_ne _ _ _ _ e]; exact h.fp k (by omega)
    fq := fun k i hk hi' => by
      by_cases e : k = m
      · rw [e, upd_eq]; have := (hq i hi').1; omega
      · rw [upd_ne _ _ _ _ e]; exact h.fq k i (by omega) hi'
    inj1 := fun k k' hk hk' => by
      by_cases e : k = m <;> by_cases e' : k' = m
      · intro _; omega
      · rw [e, upd_eq, upd_ne _ _ _ _ e']; intro e2; have := hlt k' (by omega); omega
      · rw [e', upd_eq, upd_ne _ _ _ _ e]; intro e2; have := hlt k (by omega); omega
      · rw [upd_ne _ _ _ _ e, upd_ne _ _ _ _ e']; exact h.inj1 k k' (by omega) (by omega)
    inj2 := fun k i k' i' hk hi1 hk' hi2 => by
      by_cases e : k = m <;> by_cases e' : k' = m
      · rw [e, e', upd_eq]; exact fun e2 => ⟨rfl, hi _ _ hi1 hi2 e2⟩
      · rw [e, upd_eq, upd_ne _ _ _ _ e']; intro e2; have := qlt k' i' (by omega) hi2; have := (hq i hi1).1; omega
      · rw [e', upd_eq, upd_ne _ _ _ _ e]; intro e2; have := qlt k i (by omega) hi1; have := (hq i' hi2).1; omega
      · rw [upd_ne _ _ _ _ e, upd_ne _ _ _ _ e']; exact h.inj2 k i k' i' (by omega) hi1 (by omega) hi2
    low := (h.low.trans (ha.mono hsz)).trans ⟨(grown_trans (grown_refl _ _) hg).os.trans rfl, hg.tape.trans rfl, hg.output.trans rfl, by
        have := hg.size
        simpa using this, fun k hk => by
        have h1 := hg.block k (by simp; omega) (fun e => by injection e with e; omega)
        rw [h1]
        exact Below.heap_setCell _ _ _ k (by have := h.fb; show k ≠ bb; omega)⟩ }

set_option maxRecDepth 20000 in
set_option maxHeartbeats 4000000 in
theorem new_bad (w : World) (O : Nat → Prop) (d b p y : Int) (hb : badG d b p y) (t1 : -9223372036854775808 ≤ y) (t2 : y ≤ 9223372036854775807) :
    Calls Tryd.prog 9 #[geoV d b p y] w (NewPost w O d b p y) := by
  unfold geoV
  have K := Bk.new w 23 #[.int .i64 d, .int .i64 b, .int .i64 p, .int .i64 y]
  have k0 := K.at_ (i := 0) (u := .int .i64 d) rfl
  have k1 := K.at_ (i := 1) (u := .int .i64 b) rfl
  have k2 := K.at_ (i := 2) (u := .int .i64 p) rfl
  have k3 := K.at_ (i := 3) (u := .int .i64 y) rfl
  clear K
  have HB := hide hb
  have hbad := nine_bad hb
  clear hb
  rcases hbad with hbad | hbad | hbad | hbad | hbad | hbad | hbad | hbad | hbad
  · have d1 : decide (d < 1) = true := decide_eq_true (by omega)
    clear hbad
    go_enter Tryd.func9, Tryd.ntmps9
    go_wp2_with fail
    go_ret2
    exact ⟨(Below.refl _ _).alloc (Nat.le_refl _) _, .inl ⟨HB.out, rfl⟩⟩
  · have d1 : decide (d < 1) = false := decide_eq_false (by omega)
    have d2 : decide (d > 4) = true := decide_eq_true (by omega)
    clear hbad
    go_enter Tryd.func9, Tryd.ntmps9
    go_wp2_with fail
    go_ret2
    exact ⟨(Below.refl _ _).alloc (Nat.le_refl _) _, .inl ⟨HB.out, rfl⟩⟩
  · have d1 : decide (d < 1) = false := decide_eq_false (by omega)
    have d2 : decide (d > 4) = false := decide_eq_false (by omega)
    have d3 : decide (b < 1) = true := decide_eq_true (by omega)
    clear hbad
    go_enter Tryd.func9, Tryd.ntmps9
    go_wp2_with fail
    go_ret2
    exact ⟨(Below.refl _ _).alloc (Nat.le_refl _) _, .inl ⟨HB.out, rfl⟩⟩
  · have d1 : decide (d < 1) = false := decide_eq_false (by omega)
    have d2 : decide (d > 4) = false := decide_eq_false (by omega)
    have d3 : decide (b < 1) = false := decide_eq_false (by omega)
    have d4 : decide (b > 16) = true := decide_eq_true (by omega)
    clear hbad
    go_enter Tryd.func9, Tryd.ntmps9
    go_wp2_with fail
    go_ret2
    exact ⟨(Below.refl _ _).alloc (Nat.le_refl _) _, .inl ⟨HB.out, rfl⟩⟩
  · have d1 : decide (d < 1) = false := decide_eq_false (by omega)
    have d2 : decide (d > 4) = false := decide_eq_false (by omega)
    have d3 : decide (b < 1) = false := decide_eq_false (by omega)
    have d4 : decide (b > 16) = false := decide_eq_false (by omega)
    have d5 : decide (p < 1) = true := decide_eq_true (by omega)
    clear hbad
    go_enter Tryd.func9, Tryd.ntmps9
    go_wp2_with fail
    go_ret2
    exact ⟨(Below.refl _ _).alloc (Nat.le_refl _) _, .inl ⟨HB.out, rfl⟩⟩
  · have d1 : decide (d < 1) = false := decide_eq_false (by omega)
    have d2 : decide (d > 4) = false := decide_eq_false (by omega)
    have d3 : decide (b < 1) = false := decide_eq_false (by omega)
    have d4 : decide (b > 16) = false := decide_eq_false (by omega)
    have d5 : decide (p < 1) = false := decide_eq_false (by omega)
    have d6 : decide (p > 16) = true := decide_eq_true (by omega)
    clear hbad
    go_enter Tryd.func9, Tryd.ntmps9
    go_wp2_with fail
    go_ret2
    exact ⟨(Below.refl _ _).alloc (Nat.le_refl _) _, .inl ⟨HB.out, rfl⟩⟩
  · have d1 : decide (d < 1) = false := decide_eq_false (by omega)
    have d2 : decide (d > 4) = false := decide_eq_false (by omega)
    have d3 : decide (b < 1) = false := decide_eq_false (by omega)
    have d4 : decide (b > 16) = false := decide_eq_false (by omega)
    have d5 : decide (p < 1) = false := decide_eq_false (by omega)
    have d6 : decide (p > 16) = false := decide_eq_false (by omega)
    have d7 : decide (y < 8) = true := decide_eq_true (by omega)
    clear hbad
    go_enter Tryd.func9, Tryd.ntmps9
    go_wp2_with fail
    go_ret2
    exact ⟨(Below.refl _ _).alloc (Nat.le_refl _) _, .inl ⟨HB.out, rfl⟩⟩
  · have d1 : decide (d < 1) = false := decide_eq_false (by omega)
    have d2 : decide (d > 4) = false := decide_eq_false (by omega)
    have d3 : decide (b < 1) = false := decide_eq_false (by omega)
    have d4 : decide (b > 16) = false := decide_eq_false (by omega)
    have d5 : decide (p < 1) = false := decide_eq_false (by omega)
    have d6 : decide (p > 16) = false := decide_eq_false (by omega)
    have d7 : decide (y < 8) = false := decide_eq_false (by omega)
    have d8 : decide (y > 256) = true := decide_eq_true (by omega)
    clear hbad
    go_enter Tryd.func9, Tryd.ntmps9
    go_wp2_with fail
    go_ret2
    exact ⟨(Below.refl _ _).alloc (Nat.le_refl _) _, .inl ⟨HB.out, rfl⟩⟩
  · have d1 : decide (d < 1) = false := decide_eq_false (by omega)
    have d2 : decide (d > 4) = false := decide_eq_false (by omega)
    have d3 : decide (b < 1) = false := decide_eq_false (by omega)
    have d4 : decide (b > 16) = false := decide_eq_false (by omega)
    have d5 : decide (p < 1) = false := decide_eq_false (by omega)
    have d6 : decide (p > 16) = false := decide_eq_false (by omega)
    have d7 : decide (y < 8) = false := decide_eq_false (by omega)
    have d8 : decide (y > 256) = false := decide_eq_false (by omega)
    have d9 : ¬ y % 8 = 0 := by omega
    have d9' : (y.tmod 8 != 0) = true := by rw [Int.tmod_eq_emod_of_nonneg (by omega)]; simpa using d9
    clear hbad
    go_enter Tryd.func9, Tryd.ntmps9
    go_wp2_with fail
    go_ret2
    exact ⟨(Below.refl _ _).alloc (Nat.le_refl _) _, .inl ⟨HB.out, rfl⟩⟩
set_option maxRecDepth 20000 in
set_option maxHeartbeats 4000000 in
theorem new_ok (w : World) (O : Nat → Prop) (hO : ∀ j, O j → j < w.heap.size) (g : Geo) (hg : g.Ok) (h8 : (g.y : Int) % 8 = 0) :
    Calls Tryd.prog 9 #[geoV g.d g.b g.p g.y] w fun e w' => Below w.heap.size w w' ∧ ∃ c, e = .returned (.tuple #[ptr c, .nilIface]) ∧ ChipAt w' O c g (newS g) := by
  unfold geoV
  have K := Bk.new w 23 #[.int .i64 (g.d : Int), .int .i64 (g.b : Int), .int .i64 (g.p : Int), .int .i64 (g.y : Int)]
  have k0 := K.at_ (i := 0) (u := .int .i64 (g.d : Int)) rfl
  have k1 := K.at_ (i := 1) (u := .int .i64 (g.b : Int)) rfl
  have k2 := K.at_ (i := 2) (u := .int .i64 (g.p : Int)) rfl
  have k3 := K.at_ (i := 3) (u := .int .i64 (g.y : Int)) rfl
  have HK := hide K
  have HO := hide hO
  clear K hO
  have d1 : decide ((g.d : Int) < 1) = false := decide_eq_false (by have := hg.d1; omega)
  have d2 : decide ((g.d : Int) > 4) = false := decide_eq_false (by have := hg.d4; omega)
  have d3 : decide ((g.b : Int) < 1) = false := decide_eq_false (by have := hg.b1; omega)
  have d4 : decide ((g.b : Int) > 16) = false := decide_eq_false (by have := hg.b16; omega)
  have d5 : decide ((g.p : Int) < 1) = false := decide_eq_false (by have := hg.p1; omega)
  have d6 : decide ((g.p : Int) > 16) = false := decide_eq_false (by have := hg.p16; omega)
  have d7 : decide ((g.y : Int) < 8) = false := decide_eq_false (by have := hg.y8; omega)
  have d8 : decide ((g.y : Int) > 256) = false := decide_eq_false (by have := hg.y256; omega)
  have hP16 := hg.p16
  have hY8 := hg.y8
  have hY256 := hg.y256
  have hN64 := hg.n64
  have q1 : IntKind.i64.wrap ((g.d : Int) * (g.b : Int)) = (g.n : Int) := by
    rw [← Int.natCast_mul, IntKind.wrap_i64]
    have : g.d * g.b = g.n := rfl
    rw [this]; omega
  have mk1 := make_blks g.n hN64
  have HMK2 := hide (make_pgs g.p (by omega))
  have HMK3 := hide (make_byt g.y hY256)
  have HN0 : Hid (NewL w (((w.alloc (.cells #[.int .i64 (g.d : Int), .int .i64 (g.b : Int), .int .i64 (g.p : Int), .int .i64 (g.y : Int)] 23)).alloc (.cells (rowF (g.n * 4) zcell) 63)).alloc (.cells #[.bool false, .int .i64 (g.d : Int), .int .i64 (g.b : Int), .int .i64 (g.p : Int), .int .i64 (g.y : Int), .slice (some ⟨w.heap.size + 1, 0, none⟩) g.n g.n] 41)).drew g (w.heap.size + 2) (w.heap.size + 1) w.heap.size (fun _ => 0) (fun _ _ => 0) 0) := hide {
    geo := ((HK.out.alloc _).alloc _).drew
    box := by
      have h := (Bk.new ((w.alloc (.cells #[.int .i64 (g.d : Int), .int .i64 (g.b : Int), .int .i64 (g.p : Int), .int .i64 (g.y : Int)] 23)).alloc (.cells (rowF (g.n * 4) zcell) 63)) 41 #[.bool false, .int .i64 (g.d : Int), .int .i64 (g.b : Int), .int .i64 (g.p : Int), .int .i64 (g.y : Int), .slice (some ⟨w.heap.size + 1, 0, none⟩) g.n g.n]).drew
      rw [show ((w.alloc (.cells #[.int .i64 (g.d : Int), .int .i64 (g.b : Int), .int .i64 (g.p : Int), .int .i64 (g.y : Int)] 23)).alloc (.cells (rowF (g.n * 4) zcell) 63)).heap.size = w.heap.size + 2 from by simp] at h
      exact h
    arr := by
      have h := ((Bk.new (w.alloc (.cells #[.int .i64 (g.d : Int), .int .i64 (g.b : Int), .int .i64 (g.p : Int), .int .i64 (g.y : Int)] 23)) 63 (rowF (g.n * 4) zcell)).alloc (.cells #[.bool false, .int .i64 (g.d : Int), .int .i64 (g.b : Int), .int .i64 (g.p : Int), .int .i64 (g.y : Int), .slice (some ⟨w.heap.size + 1, 0, none⟩) g.n g.n] 41)).drew
      rw [show (w.alloc (.cells #[.int .i64 (g.d : Int), .int .i64 (g.b : Int), .int .i64 (g.p : Int), .int .i64 (g.y : Int)] 23)).heap.size = w.heap.size + 1 from by simp, rowF_congr (h := fun j => if j / 4 < 0 then bcell g (fun _ => 0) (newS g).blk j else zcell j) (fun j _ => (if_neg (Nat.not_lt_zero _)).symm)] at h
      exact h
    pgs := fun k hk => absurd hk (Nat.not_lt_zero k)
    pag := fun k i hk => absurd hk (Nat.not_lt_zero k)
    fc := by omega
    fb := by omega
    fp := fun k hk => absurd hk (Nat.not_lt_zero k)
    fq := fun k i hk => absurd hk (Nat.not_lt_zero k)
    inj1 := fun k k' hk => absurd hk (Nat.not_lt_zero k)
    inj2 := fun k i k' i' hk => absurd hk (Nat.not_lt_zero k)
    low := ((((Below.refl _ _).alloc (Nat.le_refl _) _).alloc (by simp) _).alloc (by simp; omega) _).drew }
  have c5 := HN0.out.box.at_ (i := 5) (u := .slice (some ⟨w.heap.size + 1, 0, none⟩) g.n g.n) rfl
  go_enter Tryd.func9, Tryd.ntmps9
  go_wp2_with fail
  go_region
  go_wp2_with fail
  generalize (((w.alloc (.cells #[.int .i64 (g.d : Int), .int .i64 (g.b : Int), .int .i64 (g.p : Int), .int .i64 (g.y : Int)] 23)).alloc (.cells (rowF (g.n * 4) zcell) 63)).alloc (.cells #[.bool false, .int .i64 (g.d : Int), .int .i64 (g.b : Int), .int .i64 (g.p : Int), .int .i64 (g.y : Int), .slice (some ⟨w.heap.size + 1, 0, none⟩) g.n g.n] 41)).drew = W0 at *
  clear k0 k1 k2 k3 c5 mk1 HK h8
  obtain ⟨c, hc⟩ : ∃ c, c = w.heap.size + 2 := ⟨_, rfl⟩
  obtain ⟨bb, hbb⟩ : ∃ bb, bb = w.heap.size + 1 := ⟨_, rfl⟩
  obtain ⟨gb, hgb⟩ : ∃ gb, gb = w.heap.size := ⟨_, rfl⟩
  rw [← hc, ← hbb] at HN0 ⊢
  have HGB := hide hgb
  have HGS : Hid (∀ W, NewL w W g c bb w.heap.size (fun _ => 0) (fun _ _ => 0) 0 → NewL w W g c bb gb (fun _ => 0) (fun _ _ => 0) 0) := hide (fun W h => by rw [hgb]; exact h)
  replace HN0 := hide (HGS.out _ HN0.out)
  rw [← hgb]
  clear hc hbb hgb HGS
  go_loopw [66] (fun i wr => ∃ (m : Nat) (pb : Nat → Nat) (qb : Nat → Nat → Nat), m ≤ g.n ∧ i = .int .i64 m ∧ Hid (NewL w wr g c bb gb pb qb m)) (fun i _ => g.n - (intOf i).toNat)
  case atStart => exact ⟨0, _, _, by omega, rfl, HN0⟩
  case round =>
    obtain ⟨m, pb, qb, hm, rfl, HN⟩ := hrel
    by_cases hlt : m < g.n
    · have hd1 : decide (m < g.n) = true := by simp; omega
      have hd1' : decide ((m : Int) < (g.n : Int)) = true := by simp; omega
      have hmi : (m : Int) < (g.n : Int) := by omega
      have c5 := HN.out.box.at_ (i := 5) (u := .slice (some ⟨bb, 0, none⟩) g.n g.n) rfl
      have g2 := HN.out.geo.at_ (i := 2) (u := .int .i64 (g.p : Int)) rfl
      have mk2 := HMK2.out
      have hba := (HN.out.arr.alloc (.cells (rowF g.p (fun _ => .slice none 0 0)) 33)).at_ (rowF_at (n := g.n * 4) _ (i := m * 4) (by omega))
      rw [if_neg (by omega)] at hba
      unfold zcell at hba
      rw [if_pos (by omega)] at hba
      have fba := (HN.out.arr.alloc (.cells (rowF g.p (fun _ => .slice none 0 0)) 33)).free (m * 4)
      have c5a := (HN.out.box.alloc (.cells (rowF g.p (fun _ => .slice none 0 0)) 33)).at_ (i := 5) (u := .slice (some ⟨bb, 0, none⟩) g.n g.n) rfl
      have g2a := (HN.out.geo.alloc (.cells (rowF g.p (fun _ => .slice none 0 0)) 33)).at_ (i := 2) (u := .int .i64 (g.p : Int)) rfl
      go_wp2_with fail
      go_region
      obtain ⟨pk, hpk⟩ : ∃ pk, pk = wr.heap.size := ⟨_, rfl⟩
      rw [← hpk]
      obtain ⟨Wa, hWa⟩ : ∃ Wa, Wa = wr.alloc (.cells (rowF g.p (fun _ => .slice none 0 0)) 33) := ⟨_, rfl⟩
      have KP : Bk Wa pk 33 (rowF g.p (fun _ => .slice none 0 0)) := by rw [hWa, hpk]; exact Bk.new _ _ _
      have hbA : Below wr.heap.size wr Wa := by rw [hWa]; exact (Below.refl _ _).alloc (Nat.le_refl _) _
      rw [← hWa] at hba fba c5a g2a ⊢
      have hpb : bb ≠ pk := by have := HN.out.arr.lt; omega
      have hpc : c ≠ pk := by have := HN.out.box.lt; omega
      have hpg : gb ≠ pk := by have := HN.out.geo.lt; omega
      have HPKL : Hid (wr.heap.size ≤ pk ∧ pk < Wa.heap.size) := hide ⟨by omega, KP.lt⟩
      have HBA := hide hbA
      have HNEB : Hid (bb ≠ c ∧ bb ≠ gb) := hide ⟨bk_ne HN.out.arr HN.out.box (by decide), bk_ne HN.out.arr HN.out.geo (by decide)⟩
      obtain ⟨W7, hW7⟩ : ∃ W7, W7 = (Wa.setCell ⟨bb, m * 4, none⟩ (.slice (some ⟨pk, 0, none⟩) g.p g.p)).drew := ⟨_, rfl⟩
      have H7a : Hid ((Wa.setCell ⟨bb, m * 4, none⟩ (.slice (some ⟨pk, 0, none⟩) g.p g.p)).grownBy W7 (some pk)) := hide (by rw [hW7]; exact ⟨rfl, rfl, rfl, Nat.le_refl _, fun _ _ _ => rfl⟩)
      have K7 : Bk W7 pk 33 (rowF g.p (fun _ => .slice none 0 0)) := by rw [hW7]; exact (KP.far (p := ⟨bb, m * 4, none⟩) (fun e => hpb e.symm) _).drew
      have C7 : Hid (W7.cell? ⟨c, 5, none⟩ = some (.slice (some ⟨bb, 0, none⟩) g.n g.n)) := hide (by rw [hW7]; exact ((HN.out.box.below hbA HN.out.box.lt).far (p := ⟨bb, m * 4, none⟩) (fun e => HNEB.out.1 e.symm) _).drew.at_ (i := 5) rfl)
      have G7 : Hid (W7.cell? ⟨gb, 3, none⟩ = some (.int .i64 (g.y : Int))) := hide (by rw [hW7]; exact ((HN.out.geo.below hbA HN.out.geo.lt).far (p := ⟨bb, m * 4, none⟩) (fun e => HNEB.out.2 e.symm) _).drew.at_ (i := 3) rfl)
      have B7 : Hid (W7.cell? ⟨bb, m * 4, none⟩ = some (.slice (some ⟨pk, 0, none⟩) g.p g.p)) := hide (by
        rw [hW7]
        have h := ((HN.out.arr.below hbA HN.out.arr.lt).put (m * 4) (.slice (some ⟨pk, 0, none⟩) g.p g.p)).drew
        rw [rowF_set] at h
        exact h.at_ (by rw [rowF_at _ (by omega), upd_eq]))
      have HK7 := hide K7
      have HW7 : Hid (Wa.heap.size ≤ W7.heap.size) := hide (by rw [hW7]; simp)
      rw [← hW7]
      clear hW7 K7 KP hbA hba fba c5a g2a c5 g2 mk2 hWa hpk
      have c5 := C7.out
      have b7 := B7.out
      go_wp2_with fail
      clear c5 b7
      go_loopw [88] (fun i wq => ∃ (k : Nat) (vs : Nat → Value), k ≤ g.p ∧ i = .int .i64 k ∧ Hid (W7.grownBy wq (some pk) ∧ Bk wq pk 33 (rowF g.p vs) ∧ ∀ j, j < k → ∃ A cc, vs j = .slice A g.y cc)) (fun i _ => g.p - (intOf i).toNat)
      case atStart => exact ⟨0, _, by omega, rfl, hide ⟨grown_refl _ _, HK7.out, fun j hj => absurd hj (Nat.not_lt_zero j)⟩⟩
      case round =>
        obtain ⟨k, vs, hk, rfl, HI⟩ := hrel
        generalize wr = wq at *
        by_cases hlt2 : k < g.p
        · have hd2 : decide (k < g.p) = true := by simp; omega
          have hd2' : decide ((k : Int) < (g.p : Int)) = true := by simp; omega
          have hki : (k : Int) < (g.p : Int) := by omega
          have c5 := cell_grown HI.out.1 C7.out hpc
          have g3 := cell_grown HI.out.1 G7.out hpg
          have b7 := cell_grown HI.out.1 B7.out hpb
          have mk3 := HMK3.out
          have c5a := cell_alloc (.cells (madeCells #[.int .u8 0] g.y) 5) c5
          have g3a := cell_alloc (.cells (madeCells #[.int .u8 0] g.y) 5) g3
          have b7a := cell_alloc (.cells (madeCells #[.int .u8 0] g.y) 5) b7
          have kpa := (HI.out.2.1.alloc (.cells (madeCells #[.int .u8 0] g.y) 5)).at_ (rowF_at vs hlt2)
          have fpa := (HI.out.2.1.alloc (.cells (madeCells #[.int .u8 0] g.y) 5)).free k
          have HI2 : Hid (W7.grownBy (((wq.alloc (.cells (madeCells #[.int .u8 0] g.y) 5)).setCell ⟨pk, k, none⟩ (.slice (some ⟨wq.heap.size, 0, none⟩) g.y g.y)).drew) (some pk) ∧ Bk (((wq.alloc (.cells (madeCells #[.int .u8 0] g.y) 5)).setCell ⟨pk, k, none⟩ (.slice (some ⟨wq.heap.size, 0, none⟩) g.y g.y)).drew) pk 33 (rowF g.p (upd vs k (.slice (some ⟨wq.heap.size, 0, none⟩) g.y g.y))) ∧ ∀ j, j < k + 1 → ∃ A cc, upd vs k (.slice (some ⟨wq.heap.size, 0, none⟩) g.y g.y) j = .slice A g.y cc) := hide ⟨by
              refine grown_trans HI.out.1 (grown_trans (grown_of_below _ ((Below.refl _ _).alloc (Nat.le_refl _) (.cells (madeCells #[.int .u8 0] g.y) 5))) ?_)
              have h := grown_set (wq.alloc (.cells (madeCells #[.int .u8 0] g.y) 5)) ⟨pk, k, none⟩ (.slice (some ⟨wq.heap.size, 0, none⟩) g.y g.y)
              exact ⟨h.os, h.tape, h.output, h.size, h.block⟩, by
              have h := ((HI.out.2.1.alloc (.cells (madeCells #[.int .u8 0] g.y) 5)).put k (.slice (some ⟨wq.heap.size, 0, none⟩) g.y g.y)).drew
              rw [rowF_set] at h
              exact h, fun j hj => by
              by_cases e : j = k
              · rw [e, upd_eq]; exact ⟨_, _, rfl⟩
              · rw [upd_ne _ _ _ _ e]; exact HI.out.2.2 j (by omega)⟩
          go_wp2_with fail
          go_region
          go_wp2_with fail
          go_roundw
          case rel => exact ⟨k + 1, _, by omega, by go_num, HI2⟩
          case measure => simp [intOf]; omega
        · have hd2 : decide (k < g.p) = false := by simp; omega
          have hd2' : decide ((k : Int) < (g.p : Int)) = false := by simp; omega
          obtain rfl : k = g.p := by omega
          have c5 := cell_grown HI.out.1 C7.out hpc
          have b7 := cell_grown HI.out.1 B7.out hpb
          have HFL := hide (show Calls Tryd.prog 23 #[.pointer (some ⟨bb, m * 4, none⟩), .int .u8 255] wq (FillPost wq pk g.p g.y 255) from fill_any bb (m * 4) pk g.p g.y 255 vs wq b7 HI.out.2.1 HI.out.2.2 hY8 hY256 hP16 hpb)
          clear b7
          go_wp2_with fail
          refine HFL.out.mono ?_
          rintro e W9 ⟨rfl, q, hq1, hq2, hq3, hq4⟩
          have HN2 := hide (HN.out.step hlt HBA.out HPKL.out.1 HPKL.out.2 (grown_trans (grown_trans H7a.out HI.out.1) hq4) q hq1 (fun i hi => ⟨by have h1 := (hq2 i hi).1; have h2 := HI.out.1.size; have h3 := HW7.out; omega, (hq2 i hi).2⟩) hq3)
          clear hq1 hq2 hq3 hq4 HFL c5
          go_wp2_with fail
          go_roundw
          case rel => exact ⟨m + 1, _, _, by omega, by go_num, HN2⟩
          case measure => simp [intOf]; omega
    · have hd1 : decide (m < g.n) = false := by simp; omega
      have hd1' : decide ((m : Int) < (g.n : Int)) = false := by simp; omega
      obtain rfl : m = g.n := by omega
      have HD := hide (HN.out.done HO.out)
      go_wp2_with fail
      go_ret2
      exact ⟨HN.out.low, c, rfl, HD.out⟩
theorem new_any (w : World) (O : Nat → Prop) (hO : ∀ j, O j → j < w.heap.size) (d b p y : Int) (t1 : -9223372036854775808 ≤ y) (t2 : y ≤ 9223372036854775807) :
    Calls Tryd.prog 9 #[geoV d b p y] w (NewPost w O d b p y) := by
  by_cases hb : badG d b p y
  · exact new_bad w O d b p y hb t1 t2
  · have HB := hide hb
    unfold badG at hb
    obtain ⟨D, rfl⟩ : ∃ D : Nat, d = D := ⟨d.toNat, by omega⟩
    obtain ⟨B, rfl⟩ : ∃ B : Nat, b = B := ⟨b.toNat, by omega⟩
    obtain ⟨P, rfl⟩ : ∃ P : Nat, p = P := ⟨p.toNat, by omega⟩
    obtain ⟨Y, rfl⟩ : ∃ Y : Nat, y = Y := ⟨y.toNat, by omega⟩
    have hg : (⟨D, B, P, Y⟩ : Geo).Ok := ⟨by show 1 ≤ D; omega, by show D ≤ 4; omega, by show 1 ≤ B; omega, by show B ≤ 16; omega, by show 1 ≤ P; omega, by show P ≤ 16; omega, by show 8 ≤ Y; omega, by show Y ≤ 256; omega⟩
    refine (new_ok w O hO ⟨D, B, P, Y⟩ hg (by show (Y : Int) % 8 = 0; omega)).mono ?_
    rintro e w' ⟨h1, c, h2, h3⟩
    exact ⟨h1, .inr ⟨HB.out, c, h2, h3⟩⟩
end Go.Proofs.YtbldjiofchaigaaDoor.ChipW
