/- The walk of granarylaw1.PoolLeast: true, and nothing that was there is written. -/
import Derived.Test.YthaoiilghphbiaaPoolFact
import Derived.Test.YthaoiilghphbiaaScript
set_option linter.unusedVariables false
namespace Go.Proofs.Ythaoiilghphbiaa.PoolW
open Go.RowKit HeapP HeapW I64

/-- The cells of a list of bools. -/
def boolv (l : List Bool) : List Value := l.map .bool
theorem boolv_at (l : List Bool) (i : Nat) (h : i < l.length) : (boolv l).toArray[i]? = some (.bool (l.getD i false)) := by
  simp [boolv, h, List.getD]
theorem boolv_set (l : List Bool) (i : Nat) (x : Bool) : (boolv l).toArray.setIfInBounds i (.bool x) = (boolv (l.set i x)).toArray := by simp [boolv, List.map_set]
theorem bool_info : (Try.prog.info? 4).map (fun i => (i.zero, i.size, i.bytes)) = some (some (.bool false), 1, 1) := by kernel_rfl
theorem made_bool (n : Nat) : madeCells #[.bool false] n = (boolv (List.replicate n false)).toArray := by
  apply Array.toList_inj.1
  rw [toList_madeCells_one]
  simp [boolv]
/-- Who is free. -/
def freeOf (st : List Int) : List Bool := st.map fun x => decide (x = 0)
theorem freeOf_length (st : List Int) : (freeOf st).length = st.length := by simp [freeOf]
theorem freeOf_get (st : List Int) (b : Nat) (h : b < st.length) : (freeOf st).getD b false = decide (st.getD b 0 = 0) := by
  simp [freeOf, List.getD, h]
theorem freeOf_set (st : List Int) (b : Nat) (v : Int) : freeOf (st.set b v) = (freeOf st).set b (decide (v = 0)) := by simp [freeOf, List.map_set]
theorem freeOf_same (st : List Int) (b : Nat) (v : Int) (hb : b < st.length) (h : st.getD b 0 ≠ 0) (hv : v ≠ 0) : freeOf (st.set b v) = freeOf st := by
  rw [freeOf_set, decide_eq_false hv]
  apply List.ext_getElem (by simp)
  intro k h1 h2
  by_cases e : b = k
  · subst e
    have := freeOf_get st b hb
    rw [decide_eq_false h] at this
    rw [List.getElem_set_self]
    rw [List.getD_eq_getElem?_getD, List.getElem?_eq_getElem h2] at this
    simpa using this.symm
  · rw [List.getElem_set_ne e]
theorem freeOf_new (n : Nat) (l : List Bool) (hl : l.length = n) (h : ∀ b, b < n → l.getD b false = true) : l = freeOf (List.replicate n 0) := by
  apply List.ext_getElem (by simp [freeOf, hl])
  intro k h1 h2
  have := h k (by omega)
  rw [List.getD_eq_getElem?_getD, List.getElem?_eq_getElem h1] at this
  simpa [freeOf] using this

theorem PoolAt.store {w : World} {B g n gf : Nat} {P : Nat → Prop} {sp : Int} {st wr : List Int} (h : PoolAt w B P g n sp st wr) (hP : P gf) (k : Nat) (u : Value) : PoolAt (w.setCell ⟨gf, k, none⟩ u) B P g n sp st wr :=
  h.other fun x _ hx _ => Below.heap_setCell w ⟨gf, k, none⟩ u x (fun e => hx (e ▸ hP))
/-- Worn no more than k times. -/
def Few (n : Nat) (wr : List Int) (k : Nat) : Prop := wr.length = n ∧ ∀ b, b < n → 0 ≤ wr.getD b 0 ∧ wr.getD b 0 ≤ k
theorem few_zero (n : Nat) : Few n (List.replicate n 0) 0 := ⟨by simp, fun b hb => by rw [getD_rep _ _ _ hb]; omega⟩
theorem few_more {n k : Nat} {wr : List Int} (h : Few n wr k) : Few n wr (k + 1) := ⟨h.1, fun b hb => by have := h.2 b hb; omega⟩
theorem few_step {n k b : Nat} {wr : List Int} (h : Few n wr k) (hb : b < n) : Few n (wr.set b (wr.getD b 0 + 1)) (k + 1) := by
  refine ⟨by simpa using h.1, fun q hq => ?_⟩
  have h1 := h.2 b hb
  have h2 := h.2 q hq
  by_cases e : b = q
  · subst e; rw [I64.getD_set_eq _ _ _ (by have := h.1; omega)]; omega
  · rw [I64.getD_set_ne _ _ _ _ e]; omega
theorem few_any {n k : Nat} {wr : List Int} (h : Few n wr k) (b : Nat) : 0 ≤ wr.getD b 0 ∧ wr.getD b 0 ≤ k := by
  by_cases hb : b < n
  · exact h.2 b hb
  · rw [List.getD_eq_getElem?_getD, List.getElem?_eq_none (by rw [h.1]; omega)]
    simp

attribute [local irreducible] swp el EB Hp flat zeros fcode PoolAt Few freeOf

set_option maxRecDepth 100000 in
set_option maxHeartbeats 8000000 in
theorem least_law (w : World) (x0 : Int) (a0 : -9223372036854775808 ≤ x0) (b0 : x0 ≤ 9223372036854775807) (x1 : Int) (a1 : -9223372036854775808 ≤ x1) (b1 : x1 ≤ 9223372036854775807)
    (A2 : Option Addr) (n2 c2 : Nat) (X2 : Nat → Nat → Int) (hn2 : n2 ≤ c2) (hc2 : c2 ≤ maxLen) (hx2 : ∀ i j, -9223372036854775808 ≤ X2 i j ∧ X2 i j ≤ 9223372036854775807) (hr2 : RdS w A2 n2 2 (fun i j => .int .i64 (X2 i j))) :
    Calls Try.prog 4 #[.int .i64 x0, .int .i64 x1, .slice A2 n2 c2] w fun e w' => e = .returned (.bool true) ∧ Below w.heap.size w w' := by
  have hc2' : n2 ≤ 9223372036854775807 := Nat.le_trans hn2 hc2
  have HX := hide hx2
  clear hc2 hx2
  go_enter Try.func4, Try.ntmps4
  go_wp2_with fail
  refine (poolFact_any _).mono ?_
  rintro e w1 ⟨rfl, hb1⟩
  by_cases hr : x0 < 1 ∨ 64 < x0 ∨ x1 < 0 ∨ x0 < x1
  · go_wp2_with fail
    refine (new_range x0 x1 _ hr).mono ?_
    rintro e w2 ⟨rfl, rfl⟩
    unfold errV
    go_wp2_with fail
    go_ret
    exact ⟨rfl, hb1⟩
  obtain ⟨n, rfl⟩ := Int.eq_ofNat_of_zero_le (show 0 ≤ x0 by omega)
  have hn : 0 < n ∧ n ≤ 64 := by omega
  have hs : 0 ≤ x1 ∧ x1 ≤ n := by omega
  clear hr
  go_wp2_with fail
  refine (new_ok n x1 hn.1 hn.2 hs.1 hs.2 (fun _ => False) _ (fun _ h => h.elim)).mono ?_
  rintro e w2 ⟨g, rfl, hp2, hb2⟩
  have hw2 := hb1.trans (hb2.mono hb1.size)
  have hsz := hb1.size
  obtain ⟨B, hB⟩ : ∃ B, B = w1.heap.size := ⟨_, rfl⟩
  rw [← hB] at hp2 hsz
  have hBs : B ≤ w2.heap.size := by rw [hB]; exact hb2.size
  have hmk := run_make_row' (P := Try.prog) 35 4 (.bool false) 1 Try.underlying35 bool_info rfl .i64 .i64 n (by omega) (by omega) w2
  rw [made_bool] at hmk
  clear hb1 hb2 hB
  have hp3 := (hp2.avoid (P' := fun x => x = w2.heap.size) (fun x hx => .inr (Nat.le_of_eq hx.symm))).below ((Below.refl w2.heap.size w2).alloc (Nat.le_refl _) (.cells (boolv (List.replicate n false)).toArray 4))
  have hf3 := Bk.new w2 4 (boolv (List.replicate n false)).toArray
  have hw3 : Below w.heap.size w (w2.alloc (.cells (boolv (List.replicate n false)).toArray 4)) := hw2.alloc hw2.size _
  have hD3 : w2.heap.size < (w2.alloc (.cells (boolv (List.replicate n false)).toArray 4)).heap.size := hf3.lt
  have HL0 : Hid ((List.replicate n false).length = n) := hide (by simp)
  generalize List.replicate n false = fl0 at *
  go_wp2_with fail
  generalize w2.alloc (.cells (boolv fl0).toArray 4) = w3 at *
  obtain ⟨gf, hgf⟩ : ∃ gf, gf = w2.heap.size := ⟨_, rfl⟩
  rw [← hgf] at hp3 hf3 hD3 hBs ⊢
  have hgw : w.heap.size ≤ gf := by rw [hgf]; exact hw2.size
  clear hgf hmk hp2 hw2
  go_loopw [11] (fun i wr' => ∃ (k : Nat) (fl : List Bool), i = .int .i64 k ∧ k ≤ n ∧ Hid (fl.length = n ∧ ∀ b, b < k → fl.getD b false = true) ∧ Bk wr' gf 4 (boolv fl).toArray ∧ PoolAt wr' B (fun x => x = gf) g n x1 (List.replicate n 0) (List.replicate n 0) ∧ Below w.heap.size w wr' ∧ gf < wr'.heap.size) (fun i _ => n - (intOf i).toNat)
  case atStart => exact ⟨0, fl0, rfl, by omega, hide ⟨HL0.out, fun b hb => by omega⟩, hf3, hp3, hw3, hD3⟩
  case round =>
    clear hf3 hp3 hw3 hD3
    obtain ⟨k, fl, rfl, hk, HF, hf, hp, hb, hD⟩ := hrel
    by_cases hlt : k < n
    · have hc := hf.at_ (boolv_at fl k (by rw [HF.out.1]; exact hlt))
      have hz := hf.free k
      generalize fl.getD k false = old at hc
      go_wp2_with fail
      go_roundw
      case rel =>
        have hput := hf.put k (.bool true)
        rw [boolv_set] at hput
        refine ⟨k + 1, fl.set k true, by go_num, by omega, hide ⟨by rw [List.length_set]; exact HF.out.1, fun b hb => ?_⟩, hput, hp.store rfl _ _, hb.setCell hgw _, by simpa [World.setCell] using hD⟩
        by_cases e : k = b
        · subst e
          simp [List.getD_eq_getElem?_getD, HF.out.1, hlt]
        · have := HF.out.2 b (by omega)
          rw [← this]
          simp [List.getD_eq_getElem?_getD, e]
      case measure => simp [intOf]; omega
    · obtain rfl : k = n := by omega
      have hfl := freeOf_new k fl HF.out.1 HF.out.2
      rw [hfl] at hf
      clear hfl hlt HF
      go_wp2_with fail
      go_loopw [12] (fun i wr' => ∃ (j : Nat) (st wear : List Int), i = .int .i64 j ∧ j ≤ n2 ∧ Few k wear j ∧ Bk wr' gf 4 (boolv (freeOf st)).toArray ∧ PoolAt wr' B (fun x => x = gf) g k x1 st wear ∧ Below w.heap.size w wr' ∧ gf < wr'.heap.size) (fun i _ => n2 - (intOf i).toNat)
      case atStart => exact ⟨0, _, _, rfl, by omega, few_zero k, hf, hp, hb, hD⟩
      case round =>
        clear hf hp hb hD
        obtain ⟨j, st, wear, rfl, hj, hfew, hf, hp, hb, hD⟩ := hrel
        by_cases hlt : j < n2
        · obtain ⟨b, off, rfl, hbl, hcell⟩ := (hr2.below hb).at_ hlt
          have q0 := hcell 0 (by omega)
          have q1 := hcell 1 (by omega)
          rw [← Nat.add_assoc] at q0 q1
          rw [Nat.add_zero] at q0
          have v0 := HX.out j 0
          have v1 := HX.out j 1
          generalize X2 j 0 = y0 at q0 v0
          generalize X2 j 1 = y1 at q1 v1
          clear hcell
          have hbA : Below wr.heap.size wr (wr.alloc (.cells #[.int .i64 y0, .int .i64 y1] 37)) := (Below.refl _ _).alloc (Nat.le_refl _) _
          have hpA := (hp.avoid (P' := fun x => x = gf ∨ x = wr.heap.size) (fun x hx => hx.imp id (fun e => Nat.le_of_eq e.symm))).below hbA
          have hfA := hf.below hbA hD
          have hwA := hb.trans (hbA.mono hb.size)
          have hDA : gf < (wr.alloc (.cells #[.int .i64 y0, .int .i64 y1] 37)).heap.size := Nat.lt_of_lt_of_le hD hbA.size
          have hoA := Bk.new wr 37 #[.int .i64 y0, .int .i64 y1]
          have hPA : ∀ y, (y = gf ∨ y = wr.heap.size) → y < (wr.alloc (.cells #[.int .i64 y0, .int .i64 y1] 37)).heap.size := fun y hy => by
            rcases hy with rfl | rfl
            · exact hDA
            · exact hoA.lt
          have HPA := hide hPA
          have HFW := hide hfew
          have hlen := hp.lens
          have HLS : Hid (st.length = k ∧ wear.length = k) := hide ⟨hlen.1, hlen.2.1⟩
          have HBK : Hid (∀ (w' : World) st' wear', PoolAt w' B (fun x => x = gf ∨ x = wr.heap.size) g k x1 st' wear' → PoolAt w' B (fun x => x = gf) g k x1 st' wear') := hide fun w' st' wear' h => h.avoid fun x hx => .inl (.inl hx)
          clear hfew hbA hPA hp hlen hf
          by_cases h2 : y0 = 2
          · subst h2
            go_wp2_with fail
            refine (give_any B _ g k x1 st wear y1 _ hpA HPA.out ?_ ?_).mono ?_
            · have := few_any HFW.out y1.toNat; omega
            · have := few_any HFW.out y1.toNat; omega
            rintro e w4 ⟨hk4, ⟨hc, rfl, hp4⟩ | ⟨c, hc, hc0, rfl, hp4⟩⟩
            · obtain ⟨i1, i2, h1⟩ := fcode_zero hc
              obtain ⟨q, rfl⟩ := Int.eq_ofNat_of_zero_le i1
              rw [Int.toNat_natCast] at hp4 h1
              have hf4 := hk4.bk hfA (.inl rfl)
              have ho4 := hk4.bk hoA (.inr rfl)
              have c4 := ho4.at_ (i := 1) (u := .int .i64 (q : Int)) rfl
              have hc4 := hf4.at_ (boolv_at (freeOf st) q (by rw [freeOf_length, HLS.out.1]; omega))
              have hz4 := hf4.free q
              have hput := hf4.put q (.bool true)
              rw [boolv_set, show (freeOf st).set q true = freeOf (st.set q 0) by rw [freeOf_set]; rfl] at hput
              have HPUT := hide hput
              have hqk : q < k := by omega
              have HF2 := hide (few_step HFW.out hqk)
              have HP5 := hide (HBK.out _ _ _ (hp4.store (gf := gf) (.inl rfl) q (.bool true)))
              have hw4 := hwA.trans (hk4.1.mono hsz)
              have hD4 : gf < w4.heap.size := Nat.lt_of_lt_of_le hDA hk4.1.size
              generalize (freeOf st).getD q false = old at hc4
              clear hput hc h1 hk4 hf4 ho4 hp4
              go_wp2_with fail
              go_roundw
              case rel => exact ⟨j + 1, _, _, by go_num, by omega, HF2.out, HPUT.out, HP5.out, hw4.setCell hgw _, by simpa [World.setCell] using hD4⟩
              case measure => simp [intOf]; omega
            · have hf4 := hk4.bk hfA (.inl rfl)
              have HP5 := hide (HBK.out _ _ _ hp4)
              have hw4 := hwA.trans (hk4.1.mono hsz)
              have hD4 : gf < w4.heap.size := Nat.lt_of_lt_of_le hDA hk4.1.size
              have HF2 := hide (few_more HFW.out)
              unfold errV
              clear hc hc0 hk4 hp4
              go_wp2_with fail
              go_roundw
              case rel => exact ⟨j + 1, _, _, by go_num, by omega, HF2.out, hf4, HP5.out, hw4, hD4⟩
              case measure => simp [intOf]; omega
          have d2 : (y0 == 2) = false := by simpa using h2
          by_cases h3 : y0 = 3
          · subst h3
            clear h2
            go_wp2_with fail
            refine (retire_any B _ g k x1 st wear y1 _ hpA).mono ?_
            rintro e w4 ⟨hk4, ⟨hc, rfl, hp4⟩ | ⟨c, hc, hc0, rfl, hp4⟩⟩
            · obtain ⟨i1, i2, h1⟩ := fcode_zero hc
              obtain ⟨q, rfl⟩ := Int.eq_ofNat_of_zero_le i1
              rw [Int.toNat_natCast] at hp4 h1
              have hf4 := hk4.bk hfA (.inl rfl)
              rw [← freeOf_same st q 2 (by rw [HLS.out.1]; omega) (by rw [h1]; omega) (by omega)] at hf4
              have HP5 := hide (HBK.out _ _ _ hp4)
              have hw4 := hwA.trans (hk4.1.mono hsz)
              have hD4 : gf < w4.heap.size := Nat.lt_of_lt_of_le hDA hk4.1.size
              have HF2 := hide (few_more HFW.out)
              clear hc h1 hk4 hp4
              go_wp2_with fail
              go_roundw
              case rel => exact ⟨j + 1, _, _, by go_num, by omega, HF2.out, hf4, HP5.out, hw4, hD4⟩
              case measure => simp [intOf]; omega
            · have hf4 := hk4.bk hfA (.inl rfl)
              have HP5 := hide (HBK.out _ _ _ hp4)
              have hw4 := hwA.trans (hk4.1.mono hsz)
              have hD4 : gf < w4.heap.size := Nat.lt_of_lt_of_le hDA hk4.1.size
              have HF2 := hide (few_more HFW.out)
              unfold errV
              clear hc hc0 hk4 hp4
              go_wp2_with fail
              go_roundw
              case rel => exact ⟨j + 1, _, _, by go_num, by omega, HF2.out, hf4, HP5.out, hw4, hD4⟩
              case measure => simp [intOf]; omega
          have d3 : (y0 == 3) = false := by simpa using h3
          clear h2 h3
          go_wp2_with fail
          refine (take_any B _ g k x1 st wear _ hpA).mono ?_
          rintro e w4 ⟨hk4, ⟨h, rfl, hp4⟩ | ⟨h, -, rfl, hp4⟩ | ⟨-, b', hbn, hb0, hmin, rfl, hp4⟩⟩
          · have hf4 := hk4.bk hfA (.inl rfl)
            have HP5 := hide (HBK.out _ _ _ hp4)
            have hw4 := hwA.trans (hk4.1.mono hsz)
            have hD4 : gf < w4.heap.size := Nat.lt_of_lt_of_le hDA hk4.1.size
            have HF2 := hide (few_more HFW.out)
            unfold errV
            clear h hk4 hp4
            go_wp2_with fail
            go_roundw
            case rel => exact ⟨j + 1, _, _, by go_num, by omega, HF2.out, hf4, HP5.out, hw4, hD4⟩
            case measure => simp [intOf]; omega
          · have hf4 := hk4.bk hfA (.inl rfl)
            have HP5 := hide (HBK.out _ _ _ hp4)
            have hw4 := hwA.trans (hk4.1.mono hsz)
            have hD4 : gf < w4.heap.size := Nat.lt_of_lt_of_le hDA hk4.1.size
            have HF2 := hide (few_more HFW.out)
            unfold errV
            clear h hk4 hp4
            go_wp2_with fail
            go_roundw
            case rel => exact ⟨j + 1, _, _, by go_num, by omega, HF2.out, hf4, HP5.out, hw4, hD4⟩
            case measure => simp [intOf]; omega
          have hf4 := hk4.bk hfA (.inl rfl)
          have HFG : Hid (∀ i, i < k → w4.cell? ⟨gf, i, none⟩ = some (.bool (decide (st.getD i 0 = 0)))) := hide fun i hi => by
            rw [← freeOf_get st i (by rw [HLS.out.1]; exact hi)]
            exact hf4.at_ (boolv_at _ _ (by rw [freeOf_length, HLS.out.1]; exact hi))
          have hfb := HFG.out b' hbn
          rw [decide_eq_true hb0] at hfb
          have hz4 := hf4.free b'
          have hput := hf4.put b' (.bool false)
          rw [boolv_set, show (freeOf st).set b' false = freeOf (st.set b' 1) by rw [freeOf_set]; rfl] at hput
          have HPUT := hide hput
          have HP4 := hide hp4
          have HP5 := hide (HBK.out _ _ _ (hp4.store (gf := gf) (.inl rfl) b' (.bool false)))
          have hw4 := hwA.trans (hk4.1.mono hsz)
          have hD4 : gf < w4.heap.size := Nat.lt_of_lt_of_le hDA hk4.1.size
          have HF2 := hide (few_more HFW.out)
          have HMIN := hide hmin
          obtain ⟨wb, hwb⟩ : ∃ wb, wear.getD b' 0 = wb := ⟨_, rfl⟩
          have HWB := hide hwb
          clear hput hb0 hmin hk4 hp4 hf4 hwb
          go_wp2_with fail
          refine (worn_ok B _ g k b' x1 _ wear _ HP4.out hbn wb HWB.out).mono ?_
          rintro e w5 ⟨rfl, rfl⟩
          go_wp2_with fail
          go_loop [19] (fun i => ∃ q : Nat, i = .int .i64 q ∧ q ≤ k) (fun i => k - (intOf i).toNat)
          case atStart => exact ⟨0, rfl, by omega⟩
          case round =>
            obtain ⟨q, rfl, hq⟩ := hrel
            by_cases hql : q < k
            · have hcq := HFG.out q hql
              obtain ⟨v, hv⟩ : ∃ v, wear.getD q 0 = v := ⟨_, rfl⟩
              have HV := hide hv
              by_cases hf0 : st.getD q 0 = 0
              · have hm := HMIN.out q hql hf0
                rw [hv, HWB.out] at hm
                have hm2 : ¬ v < wb ∧ ¬ (v = wb ∧ q < b') := by
                  unfold lt at hm
                  simp only at hm
                  omega
                rw [decide_eq_true hf0] at hcq
                have hva : ¬ v < wb := hm2.1
                have dva : decide (v < wb) = false := decide_eq_false hva
                clear hv hf0 hm
                by_cases hve : v = wb
                · have dve : (v == wb) = true := by simpa using hve
                  have hqb : ¬ q < b' := fun h => hm2.2 ⟨hve, h⟩
                  have dqb : decide ((q : Int) < (b' : Int)) = false := decide_eq_false (by omega)
                  have dqb2 : decide (q < b') = false := decide_eq_false hqb
                  clear hm2 hve
                  go_wp2_with fail
                  refine (worn_ok B _ g k q x1 _ wear _ HP4.out hql v HV.out).mono ?_
                  rintro e w5 ⟨rfl, rfl⟩
                  go_wp2_with fail
                  go_round
                  case rel => exact ⟨q + 1, by go_num, by omega⟩
                  case measure => simp [intOf]; omega
                · have dve : (v == wb) = false := by simpa using hve
                  clear hm2 hve
                  go_wp2_with fail
                  refine (worn_ok B _ g k q x1 _ wear _ HP4.out hql v HV.out).mono ?_
                  rintro e w5 ⟨rfl, rfl⟩
                  go_wp2_with fail
                  go_round
                  case rel => exact ⟨q + 1, by go_num, by omega⟩
                  case measure => simp [intOf]; omega
              · rw [decide_eq_false hf0] at hcq
                clear hv hf0
                go_wp2_with fail
                refine (worn_ok B _ g k q x1 _ wear _ HP4.out hql v HV.out).mono ?_
                rintro e w5 ⟨rfl, rfl⟩
                go_wp2_with fail
                go_round
                case rel => exact ⟨q + 1, by go_num, by omega⟩
                case measure => simp [intOf]; omega
            · have hql' : ¬ (q : Int) < (k : Int) := by omega
              go_wp2_with fail
              go_roundw
              case rel => exact ⟨j + 1, _, _, by go_num, by omega, HF2.out, HPUT.out, HP5.out, hw4.setCell hgw _, by simpa [World.setCell] using hD4⟩
              case measure => simp [intOf]; omega
        · go_wp2_with fail
          go_ret
          exact ⟨rfl, hb⟩
end Go.Proofs.Ythaoiilghphbiaa.PoolW
