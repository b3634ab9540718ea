/- The walk of granarylaw1.BookMoves: true, and nothing that was there is written. -/
import Derived.Test.YthaoiilghphbiaaDoorBookSet
import Derived.Test.YthaoiilghphbiaaDoorInts
import Derived.Test.YthaoiilghphbiaaDoorTold
set_option linter.unusedVariables false
namespace Go.Proofs.YthaoiilghphbiaaDoor.BookW
open Go.RowKit FenP BookP ToldW

attribute [local irreducible] lb fillA setCode

theorem BookAt.len {w : World} {B T g n m : Nat} {at_ : List Int} (h : BookAt w B T g n m at_) : at_.length = n := by
  obtain ⟨_, _, _, _, _, hi, -⟩ := h
  exact hi.hat
theorem BookAt.sizes {w : World} {B T g n m : Nat} {at_ : List Int} (h : BookAt w B T g n m at_) : 0 < n ∧ n ≤ 256 ∧ 0 < m ∧ m ≤ 4096 := by
  obtain ⟨_, _, _, _, _, hi, h1, h2, -⟩ := h
  exact ⟨h1, hi.hn, h2, hi.hm⟩
theorem BookAt.val {w : World} {B T g n m : Nat} {at_ : List Int} (h : BookAt w B T g n m at_) {l : Nat} (hl : l < n) : at_.getD l 0 = -1 ∨ (0 ≤ at_.getD l 0 ∧ at_.getD l 0 < m) := by
  obtain ⟨_, _, _, _, _, hi, -⟩ := h
  rcases hi.a1 l hl with g | ⟨g1, g2, _⟩
  · exact .inl g
  · exact .inr ⟨g1, g2⟩
theorem BookAt.uniq {w : World} {B T g n m : Nat} {at_ : List Int} (h : BookAt w B T g n m at_) {l k : Nat} (hl : l < n) (hk : k < n) (h0 : at_.getD l 0 ≠ -1) (e : at_.getD l 0 = at_.getD k 0) : l = k := by
  obtain ⟨_, _, _, _, _, hi, -⟩ := h
  exact inv_unique hi hl hk h0 e

theorem at_in (B T g n m k : Nat) (at_ : List Int) (w : World) (h : BookAt w B T g n m at_) (hk : k < n) (v : Int) (hv : at_.getD k 0 = v) :
    Calls Tryd.prog 10 #[.pointer (some ⟨g, 0, none⟩), .int .i64 k] w fun e w' => ((v = -1 ∧ e = .returned (.tuple #[.int .i64 0, .iface 35 (.int .i64 4)])) ∨ (v ≠ -1 ∧ e = .returned (.tuple #[.int .i64 v, .nilIface]))) ∧ w = w' := by
  subst hv
  have hlen := h.len
  refine (at_any B T g n m at_ k w h).mono ?_
  rintro e w' ⟨hp, rfl⟩
  refine ⟨?_, rfl⟩
  rcases hp with ⟨g1, -⟩ | ⟨g1, g2, g3, rfl⟩ | ⟨g1, g2, g3, rfl⟩
  · exact absurd (show 0 ≤ (k : Int) ∧ (k : Int) < at_.length by omega) g1
  · exact .inl ⟨by simpa using g3, rfl⟩
  · exact .inr ⟨by simpa using g3, by simp⟩

theorem set_quiet (B T g n m : Nat) (at_ : List Int) (lba place : Int) (w : World) (h : BookAt w B T g n m at_) :
    Calls Tryd.prog 9 #[.pointer (some ⟨g, 0, none⟩), .int .i64 lba, .int .i64 place] w fun e w' => ∃ v, e = .returned v ∧ Kept B T w w' ∧ ∃ at', BookAt w' B T g n m at' := by
  refine (set_any B T g n m at_ lba place w h).mono ?_
  rintro e w' ⟨hk, ⟨rfl, -, h1⟩ | ⟨c, rfl, -, -, h1⟩⟩
  · exact ⟨_, rfl, hk, _, h1⟩
  · exact ⟨_, rfl, hk, _, h1⟩

set_option maxRecDepth 100000 in
set_option maxHeartbeats 4000000 in
theorem moves_law (w : World) (hE : ErrT w) (x0 : Int) (a0 : -9223372036854775808 ≤ x0) (b0 : x0 ≤ 9223372036854775807) (x1 : Int) (a1 : -9223372036854775808 ≤ x1) (b1 : x1 ≤ 9223372036854775807)
    (A2 : Option Addr) (n2 c2 : Nat) (X2 : Nat → Nat → Int) (hn2 : n2 ≤ c2) (hc2 : c2 ≤ maxLen) (hx2 : ∀ i j, -9223372036854775808 ≤ X2 i j ∧ X2 i j ≤ 9223372036854775807) (hr2 : RdS w A2 n2 3 (fun i j => .int .i64 (X2 i j)))
    (x3 : Int) (a3 : -9223372036854775808 ≤ x3) (b3 : x3 ≤ 9223372036854775807) (x4 : Int) (a4 : -9223372036854775808 ≤ x4) (b4 : x4 ≤ 9223372036854775807) :
    Calls Tryd.prog 3 #[.int .i64 x0, .int .i64 x1, .slice A2 n2 c2, .int .i64 x3, .int .i64 x4] w fun e w' => e = .returned (.bool true) ∧ Below w.heap.size w w' := by
  have hc2' : n2 ≤ 9223372036854775807 := Nat.le_trans hn2 hc2
  clear hc2
  by_cases hrange : x0 < 1 ∨ 256 < x0 ∨ x1 < 1 ∨ 4096 < x1
  · by_cases g1 : x0 < 1
    · go_enter Tryd.func3, Tryd.ntmps3
      go_wp2_with fail
      refine (new_range x0 x1 _ hrange).mono ?_
      rintro e w' ⟨rfl, rfl⟩
      go_wp2_with fail
      go_ret
      exact ⟨rfl, Below.refl _ _⟩
    by_cases g2 : 256 < x0
    · go_enter Tryd.func3, Tryd.ntmps3
      go_wp2_with fail
      refine (new_range x0 x1 _ hrange).mono ?_
      rintro e w' ⟨rfl, rfl⟩
      go_wp2_with fail
      go_ret
      exact ⟨rfl, Below.refl _ _⟩
    by_cases g3 : x1 < 1
    · go_enter Tryd.func3, Tryd.ntmps3
      go_wp2_with fail
      refine (new_range x0 x1 _ hrange).mono ?_
      rintro e w' ⟨rfl, rfl⟩
      go_wp2_with fail
      go_ret
      exact ⟨rfl, Below.refl _ _⟩
    have g4 : 4096 < x1 := by omega
    go_enter Tryd.func3, Tryd.ntmps3
    go_wp2_with fail
    refine (new_range x0 x1 _ hrange).mono ?_
    rintro e w' ⟨rfl, rfl⟩
    go_wp2_with fail
    go_ret
    exact ⟨rfl, Below.refl _ _⟩
  obtain ⟨n, rfl⟩ := Int.eq_ofNat_of_zero_le (show 0 ≤ x0 by omega)
  obtain ⟨m, rfl⟩ := Int.eq_ofNat_of_zero_le (show 0 ≤ x1 by omega)
  have hn : 0 < n ∧ n ≤ 256 := by omega
  have hm : 0 < m ∧ m ≤ 4096 := by omega
  have HE := hide hE
  have HX := hide hx2
  clear hrange hE hx2
  go_enter Tryd.func3, Tryd.ntmps3
  go_wp2_with fail
  refine (new_ok n m hn.1 hn.2 hm.1 hm.2 _).mono ?_
  rintro e w1 ⟨g, rfl, hbk1, hb1⟩
  obtain ⟨T, hT⟩ : ∃ T, T = w1.heap.size := ⟨_, rfl⟩
  rw [← hT] at hbk1
  have hT1 : T ≤ w1.heap.size := Nat.le_of_eq hT
  have hBT : w.heap.size ≤ T := by rw [hT]; exact hb1.size
  clear hT
  go_wp2_with fail
  go_loopw [13] (fun i wr => ∃ (k : Nat) (at' : List Int), i = .int .i64 k ∧ k ≤ n2 ∧ BookAt wr w.heap.size T g n m at' ∧ Below w.heap.size w wr ∧ T ≤ wr.heap.size) (fun i _ => n2 - (intOf i).toNat)
  case atStart => exact ⟨0, _, rfl, by omega, hbk1, hb1, hT1⟩
  case round =>
    obtain ⟨k, at', rfl, hk, hbk, hb, hTr⟩ := hrel
    by_cases hlt : k < n2
    · obtain ⟨b, off, rfl, hbl, hcell⟩ := (hr2.below hb).at_ hlt
      have q1 := hcell 1 (by omega)
      have q2 := hcell 2 (by omega)
      rw [← Nat.add_assoc] at q1 q2
      have v1 := HX.out k 1
      have v2 := HX.out k 2
      generalize X2 k 1 = y1 at q1 v1
      generalize X2 k 2 = y2 at q2 v2
      clear hcell
      go_wp2_with fail
      go_region_with (first
        | (go_at_call 9
           refine (set_quiet w.heap.size T g n m at' y1 y2 _ ?_).mono ?_
           · exact hbk.below (Below.refl _ _).drew (Nat.le_refl _)
           rintro e w2 ⟨v, rfl, hk2, at2, hbk2⟩))
      all_goals
        go_wp2_with fail
        go_roundw
        case rel => exact ⟨k + 1, at2, by go_num, by omega, hbk2, hb.drew.trans hk2.1, Nat.le_trans hTr hk2.1.size⟩
        case measure => simp [intOf]; omega
    · obtain rfl : k = n2 := by omega
      clear hT1 hbk1 hb1 hlt
      obtain ⟨B2, hB2⟩ : ∃ B2, B2 = wr.heap.size := ⟨_, rfl⟩
      have hs2 : B2 ≤ wr.heap.size := Nat.le_of_eq hB2
      have hs2' : wr.heap.size ≤ B2 := Nat.le_of_eq hB2.symm
      have hT2 : T ≤ B2 := by omega
      have hbB : w.heap.size ≤ B2 := by omega
      have hln := hbk.len
      have HLN := hide hln
      clear hln hB2 hTr
      go_wp2_with fail
      go_loopw [14, 15] (fun q l wq => ∃ (j : Nat), l = .int .i64 j ∧ j ≤ n ∧ wq.ownsRow B2 3 1 q j (i64v (at'.take j)) ∧ Below B2 wr wq ∧ B2 ≤ wq.heap.size) (fun _ l _ => n - (intOf l).toNat)
      case atStart => exact ⟨0, rfl, by omega, by simpa [i64v] using World.ownsRow_nil wr B2 3 1, Below.refl _ _, hs2⟩
      case round =>
        obtain ⟨j, rfl, hj, hown, hbq, hsq⟩ := hrel
        obtain ⟨D, c5, rfl, hc5, -, hr5, -, -⟩ := own_form hown
        have hbkq := hbk.below hbq hs2'
        by_cases hlt : j < n
        · have HT : Hid (at'.take (j + 1) = at'.take j ++ [at'.getD j 0]) := hide (by rw [List.take_succ_eq_append_getElem (by rw [HLN.out]; exact hlt)]; simp [List.getD, HLN.out, hlt])
          obtain ⟨v, hv⟩ : ∃ v, at'.getD j 0 = v := ⟨_, rfl⟩
          rw [hv] at HT
          have HV := hide hv
          generalize at'.take j = xs at hown HT
          clear hv hr5
          go_wp2_with fail
          refine (at_in w.heap.size T g n m j at' _ hbkq hlt v HV.out).mono ?_
          rintro e w5 ⟨⟨rfl, rfl⟩ | ⟨hv, rfl⟩, rfl⟩
          · go_wp2_with (first
              | (at_builtin
                 refine wpList_int _ rfl (.tmp 77) (.tmp 79) rfl B2 _ j xs rfl (by exact hown.alloc _) _ (-1) rfl (Rd.one _ _ _) (by omega) (by simp; omega) ?_
                 intro A6 c6 w6 hc6 hown6 hb6))
            go_roundw
            case rel => exact ⟨j + 1, by go_num, by omega, by rw [HT.out]; exact hown6, (hbq.alloc hsq _).trans hb6, Nat.le_trans (by simp; omega) hb6.size⟩
            case measure => simp [intOf]; omega
          · clear hv
            go_wp2_with (first
              | (at_builtin
                 refine wpList_int _ rfl (.tmp 77) (.tmp 79) rfl B2 _ j xs rfl (by exact hown.alloc _) _ v rfl (Rd.one _ _ _) (by omega) (by simp; omega) ?_
                 intro A6 c6 w6 hc6 hown6 hb6))
            go_roundw
            case rel => exact ⟨j + 1, by go_num, by omega, by rw [HT.out]; exact hown6, (hbq.alloc hsq _).trans hb6, Nat.le_trans (by simp; omega) hb6.size⟩
            case measure => simp [intOf]; omega
        · obtain rfl : j = n := by omega
          have hfull : at'.take j = at' := List.take_of_length_le (by rw [HLN.out]; exact Nat.le_refl _)
          rw [hfull] at hown
          have hbw := (hb.trans (hbq.mono hbB))
          clear hr5 hfull hlt hbq hbk hb hs2 hs2' hr2
          go_wp2_with fail
          refine (set_any w.heap.size T g j m at' x3 x4 _ hbkq).mono ?_
          rintro e w6 ⟨hk6, hset⟩
          have hr6 := Rd.of_own (hk6.own hown hT2)
          have hb6 := hbw.trans hk6.1
          have HVAL := hide (fun l => hbkq.val (l := l))
          have HUNI := hide (fun l k => hbkq.uniq (l := l) (k := k))
          have HWAS : Hid (∀ l : Nat, l < j → ∃ b o, D = some ⟨b, o, none⟩ ∧ w6.cell? ⟨b, o + l, none⟩ = some (.int .i64 (at'.getD l 0))) := by
            refine hide fun l hl => ?_
            obtain ⟨b, o, h1, h2⟩ := hr6.at_ (i := l) (by rw [i64v_length, HLN.out]; exact hl)
            refine ⟨b, o, h1, ?_⟩
            rw [h2]
            simp [i64v, List.getD, HLN.out, hl]
          clear hbkq hk6 hown hr6 hbw
          rcases hset with ⟨rfl, hcode, hbk6⟩ | ⟨c, rfl, hcode, hc, hbk6⟩
          · have hin : 0 ≤ x3 ∧ x3 < j ∧ 0 ≤ x4 ∧ x4 < m := by
              by_cases hin : 0 ≤ x3 ∧ x3 < j ∧ 0 ≤ x4 ∧ x4 < m
              · exact hin
              · rw [setCode_range hin] at hcode; omega
            obtain ⟨i1, i2, i3, i4⟩ := hin
            obtain ⟨l3, rfl⟩ := Int.eq_ofNat_of_zero_le i1
            rw [Int.toNat_natCast] at hbk6
            clear hcode
            go_wp2_with fail
            go_loop [18] (fun l => ∃ k : Nat, l = .int .i64 k ∧ k ≤ j) (fun l => j - (intOf l).toNat)
            case atStart => exact ⟨0, rfl, by omega⟩
            case round =>
              obtain ⟨k, rfl, hk⟩ := hrel
              by_cases hlt : k < j
              · obtain ⟨b, o, hD, hcw⟩ := HWAS.out k hlt
                subst hD
                by_cases hkl : k = l3
                · subst hkl
                  have hse : ((k : Int) == (k : Int)) = true := by simp
                  have hve : (at'.set k x4).getD k 0 = x4 := BookP.getD_set_eq _ _ _ (by rw [HLN.out]; exact hlt)
                  have HVE := hide hve
                  have hxx : (x4 != x4) = false := by simp
                  clear hve hcw
                  go_wp2_with fail
                  refine (at_in w.heap.size T g j m k _ _ hbk6 hlt x4 HVE.out).mono ?_
                  rintro e w7 ⟨⟨hv, -⟩ | ⟨hv, rfl⟩, rfl⟩
                  · omega
                  · clear hv
                    go_wp2_with fail
                    go_round
                    case rel => exact ⟨k + 1, by go_num, by omega⟩
                    case measure => simp [intOf]; omega
                · have hse : ((k : Int) == (l3 : Int)) = false := by simp; omega
                  have hve : (at'.set l3 x4).getD k 0 = at'.getD k 0 := BookP.getD_set_ne _ _ _ _ (fun e => hkl e.symm)
                  obtain ⟨v, hv⟩ : ∃ v, v = at'.getD k 0 := ⟨_, rfl⟩
                  rw [← hv] at hve hcw
                  have HVE := hide hve
                  have hxx : (v != v) = false := by simp
                  clear hve hv hkl
                  go_wp2_with fail
                  refine (at_in w.heap.size T g j m k _ _ hbk6 hlt v HVE.out).mono ?_
                  rintro e w7 ⟨⟨rfl, rfl⟩ | ⟨hv, rfl⟩, rfl⟩
                  · go_wp2_with fail
                    go_round
                    case rel => exact ⟨k + 1, by go_num, by omega⟩
                    case measure => simp [intOf]; omega
                  · clear hv
                    go_wp2_with fail
                    go_round
                    case rel => exact ⟨k + 1, by go_num, by omega⟩
                    case measure => simp [intOf]; omega
              · obtain rfl : k = j := by omega
                obtain ⟨b, o, hD, hcw⟩ := HWAS.out l3 (by omega)
                subst hD
                have hval := HVAL.out l3 (by omega)
                obtain ⟨v, hv⟩ : ∃ v, v = at'.getD l3 0 := ⟨_, rfl⟩
                rw [← hv] at hcw hval
                have HV := hide hv
                clear hv hlt
                by_cases hv0 : v < 0
                · go_wp2_with fail
                  go_ret
                  exact ⟨rfl, hb6⟩
                by_cases hv4 : v = x4
                · subst hv4
                  have hse : (v == v) = true := by simp
                  go_wp2_with fail
                  go_ret
                  exact ⟨rfl, hb6⟩
                have hse : (v == x4) = false := by simpa using hv4
                have hnone : ∀ l, l < k → (at'.set l3 x4).getD l 0 ≠ v := by
                  intro l hl e
                  by_cases hl3 : l3 = l
                  · subst hl3
                    rw [BookP.getD_set_eq _ _ _ (by rw [HLN.out]; exact hl)] at e
                    exact hv4 e.symm
                  · rw [BookP.getD_set_ne _ _ _ _ hl3] at e
                    exact hl3 (HUNI.out l3 l (by omega) hl (by rw [← HV.out]; omega) (by rw [e, ← HV.out]))
                have HNONE := hide hnone
                clear hv4 hnone
                go_wp2_with fail
                refine (of_any w.heap.size T g k m _ v _ hbk6).mono ?_
                rintro e w7 ⟨hof, rfl⟩
                rcases hof with ⟨h, -⟩ | ⟨-, -, -, rfl⟩ | ⟨-, -, l, hl, h, -⟩
                · exact absurd (show 0 ≤ v ∧ v < m by omega) h
                · unfold errV
                  go_wp2_with fail
                  refine (error_some 4 4 _ (HE.out.below hb6 (Nat.le_refl _)) true rfl).mono ?_
                  rintro e w8 ⟨rfl, hb8⟩
                  go_wp2_with fail
                  go_ret
                  exact ⟨rfl, hb6.trans (hb8.mono hb6.size)⟩
                · exact absurd h (HNONE.out l hl)
          · unfold errV
            clear hcode hc
            go_wp2_with fail
            go_loop [18] (fun l => ∃ k : Nat, l = .int .i64 k ∧ k ≤ j) (fun l => j - (intOf l).toNat)
            case atStart => exact ⟨0, rfl, by omega⟩
            case round =>
              obtain ⟨k, rfl, hk⟩ := hrel
              by_cases hlt : k < j
              · obtain ⟨b, o, hD, hcw⟩ := HWAS.out k hlt
                subst hD
                obtain ⟨v, hv⟩ : ∃ v, v = at'.getD k 0 := ⟨_, rfl⟩
                rw [← hv] at hcw
                have HVE := hide hv.symm
                have hxx : (v != v) = false := by simp
                clear hv
                by_cases hkl : (k : Int) = x3
                · have hse : ((k : Int) == x3) = true := by simpa using hkl
                  clear hkl
                  go_wp2_with fail
                  refine (at_in w.heap.size T g j m k _ _ hbk6 hlt v HVE.out).mono ?_
                  rintro e w7 ⟨⟨rfl, rfl⟩ | ⟨hv, rfl⟩, rfl⟩
                  · go_wp2_with fail
                    go_round
                    case rel => exact ⟨k + 1, by go_num, by omega⟩
                    case measure => simp [intOf]; omega
                  · clear hv
                    go_wp2_with fail
                    go_round
                    case rel => exact ⟨k + 1, by go_num, by omega⟩
                    case measure => simp [intOf]; omega
                · have hse : ((k : Int) == x3) = false := by simpa using hkl
                  clear hkl
                  go_wp2_with fail
                  refine (at_in w.heap.size T g j m k _ _ hbk6 hlt v HVE.out).mono ?_
                  rintro e w7 ⟨⟨rfl, rfl⟩ | ⟨hv, rfl⟩, rfl⟩
                  · go_wp2_with fail
                    go_round
                    case rel => exact ⟨k + 1, by go_num, by omega⟩
                    case measure => simp [intOf]; omega
                  · clear hv
                    go_wp2_with fail
                    go_round
                    case rel => exact ⟨k + 1, by go_num, by omega⟩
                    case measure => simp [intOf]; omega
              · obtain rfl : k = j := by omega
                clear hlt
                go_wp2_with fail
                go_ret
                exact ⟨rfl, hb6⟩
end Go.Proofs.YthaoiilghphbiaaDoor.BookW
