/- The walk of granarylaw1.BookBack: true, and nothing that was there is written. -/
import Derived.Test.YthaoiilghphbiaaDoorBookMoves
set_option linter.unusedVariables false
namespace Go.Proofs.YthaoiilghphbiaaDoor.BookW
open Go.RowKit FenP BookP ToldW

theorem set_fact : setCode 2 3 [-1, -1] 1 2 = 0 := by decide

theorem getD_mem_iff (l : List Int) (v : Int) : v ∈ l ↔ ∃ i, i < l.length ∧ l.getD i 0 = v := by
  constructor
  · intro h
    obtain ⟨i, hi, e⟩ := List.getElem_of_mem h
    exact ⟨i, hi, by simp [List.getD, hi, e]⟩
  · rintro ⟨i, hi, rfl⟩
    rw [List.getD_eq_getElem?_getD, List.getElem?_eq_getElem hi]
    exact List.getElem_mem hi
theorem BookAt.count {w : World} {B T g n m : Nat} {at_ : List Int} (h : BookAt w B T g n m at_) (p : Nat) : at_.count (p : Int) = if (p : Int) ∈ at_ then 1 else 0 :=
  count_unique at_ _ fun i j hi hj e1 e2 => h.uniq (by rw [← h.len]; exact hi) (by rw [← h.len]; exact hj) (by rw [e1]; omega) (e1.trans e2.symm)
theorem BookAt.cnt_some {w : World} {B T g n m : Nat} {at_ : List Int} (h : BookAt w B T g n m at_) {l p : Nat} (hl : l < n) (hv : at_.getD l 0 = (p : Int)) : cnt at_ 0 (p + 1) = cnt at_ 0 p + 1 := by
  rw [cnt_succ _ _ _ (Nat.zero_le _), h.count, if_pos ((getD_mem_iff _ _).2 ⟨l, by rw [h.len]; exact hl, hv⟩)]
theorem BookAt.cnt_none {w : World} {B T g n m : Nat} {at_ : List Int} (h : BookAt w B T g n m at_) {p : Nat} (hv : ∀ l, l < n → at_.getD l 0 ≠ (p : Int)) : cnt at_ 0 (p + 1) = cnt at_ 0 p := by
  rw [cnt_succ _ _ _ (Nat.zero_le _), h.count, if_neg]
  · rfl
  · intro hm
    obtain ⟨l, hl, e⟩ := (getD_mem_iff _ _).1 hm
    exact hv l (by rw [← h.len]; exact hl) e
theorem BookAt.cnt_full {w : World} {B T g n m : Nat} {at_ : List Int} (h : BookAt w B T g n m at_) : cnt at_ 0 m = at_.countP fun x => decide (x ≠ -1) := by
  obtain ⟨_, _, _, _, _, hi, -⟩ := h
  exact cnt_all hi

/-- How many of the first k lie somewhere. -/
def some_ (l : List Int) (k : Nat) : Nat := (l.take k).countP fun x => decide (x ≠ -1)
theorem some_zero (l : List Int) : some_ l 0 = 0 := by simp [some_]
theorem some_succ (l : List Int) (k : Nat) (hk : k < l.length) : some_ l (k + 1) = some_ l k + (if l.getD k 0 = -1 then 0 else 1) := by
  unfold some_
  rw [List.take_succ_eq_append_getElem hk, List.countP_append]
  have : l[k] = l.getD k 0 := by simp [List.getD, hk]
  rw [this]
  by_cases e : l.getD k 0 = -1
  · rw [if_pos e, e]; rfl
  · have d : decide (l.getD k 0 ≠ -1) = true := decide_eq_true e
    rw [if_neg e, List.countP_cons, List.countP_nil, d]
    rfl
theorem some_full (l : List Int) : some_ l l.length = l.countP fun x => decide (x ≠ -1) := by simp [some_]
theorem some_le (l : List Int) (k : Nat) : some_ l k ≤ k := Nat.le_trans List.countP_le_length (by simp; omega)

attribute [local irreducible] lb fillA setCode some_ cnt

theorem drop_quiet (B T g n m : Nat) (at_ : List Int) (lba : Int) (w : World) (h : BookAt w B T g n m at_) :
    Calls Tryd.prog 16 #[.pointer (some ⟨g, 0, none⟩), .int .i64 lba] w fun e w' => ∃ v, e = .returned v ∧ Kept B T w w' ∧ ∃ at', BookAt w' B T g n m at' := by
  refine (drop_any B T g n m at_ lba w h).mono ?_
  rintro e w' ⟨hk, ⟨-, rfl, h1⟩ | ⟨-, -, rfl, h1⟩⟩
  · exact ⟨_, rfl, hk, _, h1⟩
  · exact ⟨_, rfl, hk, _, h1⟩

set_option maxRecDepth 100000 in
set_option maxHeartbeats 8000000 in
theorem back_law (w : World) (hE : ErrT w) (x0 : Int) (a0 : -9223372036854775808 ≤ x0) (b0 : x0 ≤ 9223372036854775807) (x1 : Int) (a1 : -9223372036854775808 ≤ x1) (b1 : x1 ≤ 9223372036854775807)
    (A2 : Option Addr) (n2 c2 : Nat) (X2 : Nat → Nat → Int) (hn2 : n2 ≤ c2) (hc2 : c2 ≤ maxLen) (hx2 : ∀ i j, -9223372036854775808 ≤ X2 i j ∧ X2 i j ≤ 9223372036854775807) (hr2 : RdS w A2 n2 3 (fun i j => .int .i64 (X2 i j))) :
    Calls Tryd.prog 5 #[.int .i64 x0, .int .i64 x1, .slice A2 n2 c2] w fun e w' => e = .returned (.bool true) ∧ Below w.heap.size w w' := by
  have hc2' : n2 ≤ 9223372036854775807 := Nat.le_trans hn2 hc2
  have HE := hide hE
  have HX := hide hx2
  clear hc2 hE hx2
  go_enter Tryd.func5, Tryd.ntmps5
  go_wp2_with fail
  refine (new_ok 2 3 (by omega) (by omega) (by omega) (by omega) _).mono ?_
  rintro e w1 ⟨g0, rfl, hbk1, hb1⟩
  go_wp2_with fail
  refine (set_any _ _ g0 2 3 _ 1 2 _ hbk1).mono ?_
  rintro e w2 ⟨hk2, ⟨rfl, -, hbk2⟩ | ⟨c, -, hcode, hc, -⟩⟩
  rotate_left
  · have : setCode 2 3 (List.replicate 2 (-1)) 1 2 = 0 := set_fact
    omega
  have hw2 := hb1.trans hk2.1
  clear hb1 hk2 hbk1
  go_wp2_with fail
  refine (at_in _ _ g0 2 3 1 _ _ hbk2 (by omega) 2 rfl).mono ?_
  rintro e w3 ⟨⟨h, -⟩ | ⟨-, rfl⟩, rfl⟩
  · omega
  clear hbk2
  by_cases hrange : x0 < 1 ∨ 256 < x0 ∨ x1 < 1 ∨ 4096 < x1
  · go_wp2_with fail
    refine (new_range x0 x1 _ hrange).mono ?_
    rintro e w' ⟨rfl, rfl⟩
    go_wp2_with fail
    go_ret
    exact ⟨rfl, hw2⟩
  obtain ⟨n, rfl⟩ := Int.eq_ofNat_of_zero_le (show 0 ≤ x0 by omega)
  obtain ⟨m, rfl⟩ := Int.eq_ofNat_of_zero_le (show 0 ≤ x1 by omega)
  have hn : 0 < n ∧ n ≤ 256 := by omega
  have hm : 0 < m ∧ m ≤ 4096 := by omega
  clear hrange
  go_wp2_with fail
  refine (new_ok n m hn.1 hn.2 hm.1 hm.2 _).mono ?_
  rintro e w3 ⟨g, rfl, hbk3, hb3⟩
  obtain ⟨T, hT⟩ : ∃ T, T = w3.heap.size := ⟨_, rfl⟩
  obtain ⟨B, hB⟩ : ∃ B, B = w2.heap.size := ⟨_, rfl⟩
  rw [← hT, ← hB] at hbk3
  have hT3 : T ≤ w3.heap.size := Nat.le_of_eq hT
  have hBT : w.heap.size ≤ B := by rw [hB]; exact hw2.size
  have hw3 := hw2.trans (hb3.mono hw2.size)
  clear hT hB hb3 hw2
  go_wp2_with fail
  go_loopw [12] (fun i wr => ∃ (k : Nat) (at' : List Int), i = .int .i64 k ∧ k ≤ n2 ∧ BookAt wr B T g n m at' ∧ Below w.heap.size w wr ∧ T ≤ wr.heap.size) (fun i _ => n2 - (intOf i).toNat)
  case atStart => exact ⟨0, _, rfl, by omega, hbk3, hw3, hT3⟩
  case round =>
    clear hbk3 hw3 hT3
    obtain ⟨k, at', rfl, hk, hbk, hb, hTr⟩ := hrel
    by_cases hlt : k < n2
    · obtain ⟨b, off, rfl, hbl, hcell⟩ := (hr2.below hb).at_ hlt
      have q0 := hcell 0 (by omega)
      have q1 := hcell 1 (by omega)
      have q2 := hcell 2 (by omega)
      rw [← Nat.add_assoc] at q0 q1 q2
      rw [Nat.add_zero] at q0
      have v0 := HX.out k 0
      have v1 := HX.out k 1
      have v2 := HX.out k 2
      generalize X2 k 0 = y0 at q0 v0
      generalize X2 k 1 = y1 at q1 v1
      generalize X2 k 2 = y2 at q2 v2
      clear hcell
      have hbA : Below wr.heap.size wr (wr.alloc (.cells #[.int .i64 y0, .int .i64 y1, .int .i64 y2] 30)) := (Below.refl _ _).alloc (Nat.le_refl _) _
      have hkA := hbk.below hbA (Nat.le_refl _)
      have hwA := hb.trans (hbA.mono hb.size)
      by_cases h2 : y0 = 2
      · subst h2
        go_wp2_with fail
        refine (drop_quiet B T g n m at' y1 _ hkA).mono ?_
        rintro e w4 ⟨v, rfl, hk4, at2, hbk4⟩
        go_wp2_with fail
        go_roundw
        case rel => exact ⟨k + 1, at2, by go_num, by omega, hbk4, hwA.trans (hk4.1.mono hBT), Nat.le_trans (Nat.le_trans hTr hbA.size) hk4.1.size⟩
        case measure => simp [intOf]; omega
      · have d2 : (y0 == 2) = false := by simpa using h2
        clear h2
        go_wp2_with fail
        refine (set_quiet B T g n m at' y1 y2 _ hkA).mono ?_
        rintro e w4 ⟨v, rfl, hk4, at2, hbk4⟩
        go_wp2_with fail
        go_roundw
        case rel => exact ⟨k + 1, at2, by go_num, by omega, hbk4, hwA.trans (hk4.1.mono hBT), Nat.le_trans (Nat.le_trans hTr hbA.size) hk4.1.size⟩
        case measure => simp [intOf]; omega
    · obtain rfl : k = n2 := by omega
      clear hlt hr2
      have HLEN := hide hbk.len
      go_wp2_with fail
      go_loopw [14, 15] (fun c l wq => ∃ (j : Nat), l = .int .i64 j ∧ c = .int .i64 (some_ at' j : Nat) ∧ j ≤ n ∧ BookAt wq B T g n m at' ∧ Below w.heap.size w wq) (fun _ l _ => n - (intOf l).toNat)
      case atStart => exact ⟨0, rfl, by rw [some_zero]; rfl, by omega, hbk, hb⟩
      case round =>
        clear hbk hb hTr
        obtain ⟨j, rfl, rfl, hj, hbkq, hbq⟩ := hrel
        by_cases hlt : j < n
        · have hss := some_succ at' j (by rw [HLEN.out]; exact hlt)
          have hsl := some_le at' j
          have hvl := hbkq.val hlt
          obtain ⟨v, hv⟩ : ∃ v, at'.getD j 0 = v := ⟨_, rfl⟩
          rw [hv] at hss hvl
          have HV := hide hv
          have HSS := hide hss
          clear hv hss
          go_wp2_with fail
          refine (at_in B T g n m j at' _ hbkq hlt v HV.out).mono ?_
          rintro e w5 ⟨⟨rfl, rfl⟩ | ⟨hv, rfl⟩, rfl⟩
          · go_wp2_with fail
            refine (error_some 4 4 _ (HE.out.below hbq (Nat.le_refl _)) true rfl).mono ?_
            rintro e w6 ⟨rfl, hb6⟩
            go_wp2_with fail
            go_roundw
            case rel => exact ⟨j + 1, by go_num, by rw [HSS.out]; rfl, by omega, hbkq.below hb6 (Nat.le_refl _), hbq.trans (hb6.mono hbq.size)⟩
            case measure => simp [intOf]; omega
          · rw [if_neg hv] at HSS
            have HNV := hide hv
            have hv0 : 0 ≤ v ∧ v < m := by omega
            clear hv hvl
            go_wp2_with fail
            refine (of_any B T g n m at' v _ hbkq).mono ?_
            rintro e w6 ⟨hof, rfl⟩
            rcases hof with ⟨h, -⟩ | ⟨-, -, h, -⟩ | ⟨-, -, l, hl, h, rfl⟩
            · exact absurd hv0 h
            · exact absurd HV.out (h j hlt)
            · obtain rfl : l = j := hbkq.uniq hl hlt (by rw [h]; exact HNV.out) (h.trans HV.out.symm)
              have d5 : ((l : Int) != (l : Int)) = false := by simp
              clear h
              go_wp2_with fail
              go_roundw
              case rel => exact ⟨l + 1, by go_num, by rw [HSS.out]; go_num, by omega, hbkq, hbq⟩
              case measure => simp [intOf]; omega
        · obtain rfl : j = n := by omega
          have hcf := hbkq.cnt_full
          have hsf := some_full at'
          rw [HLEN.out, ← hcf] at hsf
          have hs0 := some_le at' j
          have HSF := hide hsf
          have hc0 : cnt at' 0 m ≤ 256 := by omega
          clear hcf hlt hsf
          go_wp2_with fail
          go_loop [20, 21] (fun c l => ∃ (q : Nat), l = .int .i64 q ∧ c = .int .i64 (cnt at' 0 q : Nat) ∧ q ≤ m ∧ cnt at' 0 q ≤ q) (fun _ l => m - (intOf l).toNat)
          case atStart => exact ⟨0, rfl, by rw [BookP.cnt_none]; rfl, by omega, by rw [BookP.cnt_none]; exact Nat.le_refl _⟩
          case round =>
            obtain ⟨q, rfl, rfl, hq, hcq⟩ := hrel
            by_cases hlt : q < m
            · go_wp2_with fail
              refine (of_any B T g j m at' q _ hbkq).mono ?_
              rintro e w6 ⟨hof, rfl⟩
              rcases hof with ⟨h, -⟩ | ⟨-, -, h, rfl⟩ | ⟨-, -, l, hl, h, rfl⟩
              · exact absurd (show 0 ≤ (q : Int) ∧ (q : Int) < m by omega) h
              · have HC := hide (hbkq.cnt_none h)
                clear h
                unfold errV
                go_wp2_with fail
                go_round
                case rel => exact ⟨q + 1, by go_num, by rw [HC.out], by omega, by rw [HC.out]; omega⟩
                case measure => simp [intOf]; omega
              · have HC := hide (hbkq.cnt_some hl h)
                have HV := hide h
                have d5 : ((q : Int) != (q : Int)) = false := by simp
                clear h
                go_wp2_with fail
                refine (at_in B T g j m l at' _ hbkq hl q HV.out).mono ?_
                rintro e w7 ⟨⟨h, -⟩ | ⟨-, rfl⟩, rfl⟩
                · omega
                · go_wp2_with fail
                  go_round
                  case rel => exact ⟨q + 1, by go_num, by rw [HC.out]; go_num, by omega, by rw [HC.out]; omega⟩
                  case measure => simp [intOf]; omega
            · obtain rfl : q = m := by omega
              have d6 : (((cnt at' 0 q : Nat) : Int) == ((cnt at' 0 q : Nat) : Int)) = true := by simp
              have d7 : (((some_ at' j : Nat) : Int) == ((cnt at' 0 q : Nat) : Int)) = true := by rw [HSF.out]; simp
              have d8 : (((cnt at' 0 q : Nat) : Int) == ((some_ at' j : Nat) : Int)) = true := by rw [HSF.out]; simp
              go_wp2_with fail
              refine (live_ok B T g j q at' 0 q _ hbkq (Nat.zero_le _) (Nat.le_refl _)).mono ?_
              rintro e w8 ⟨rfl, rfl⟩
              go_wp2_with fail
              go_ret
              exact ⟨rfl, hbq⟩
end Go.Proofs.YthaoiilghphbiaaDoor.BookW
