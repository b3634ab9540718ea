/- The walks of granaryref1's book: BookFault, NewBook, Of, Set, Live. -/
import Derived.Test.YthaoiilghphbiaaDoorBookSet
import Derived.Test.YthaoiilghphbiaaDoorInts
set_option linter.unusedVariables false
namespace Go.Proofs.YthaoiilghphbiaaDoor.BookW
open Go.RowKit FenP BookP

/-- The table behind a Set. -/
def afterSet (n m : Nat) (wl : List Int) (lba place : Int) : List Int := if setCode n m wl lba place = 0 then wl.set lba.toNat place else wl
theorem afterSet_ok {n m : Nat} {wl : List Int} {lba place : Int} (h : setCode n m wl lba place = 0) : afterSet n m wl lba place = wl.set lba.toNat place := if_pos h
theorem afterSet_no {n m : Nat} {wl : List Int} {lba place : Int} (h : setCode n m wl lba place ≠ 0) : afterSet n m wl lba place = wl := if_neg h

attribute [local irreducible] lb fillA setCode afterSet

theorem fault_ok (n m : Nat) (hn : 0 < n) (hn2 : n ≤ 256) (hm : 0 < m) (hm2 : m ≤ 4096) (w : World) : Calls Tryd.prog 13 #[.int .i64 n, .int .i64 m] w fun e w' => e = .returned (.int .i64 0) ∧ w = w' := by
  go_enter Tryd.func13, Tryd.ntmps13
  go_wp2
  go_ret
  exact ⟨rfl, rfl⟩
theorem fault_range (x0 x1 : Int) (w : World) (h : x0 < 1 ∨ 256 < x0 ∨ x1 < 1 ∨ 4096 < x1) : Calls Tryd.prog 13 #[.int .i64 x0, .int .i64 x1] w fun e w' => e = .returned (.int .i64 1) ∧ w = w' := by
  by_cases h1 : x0 < 1
  · go_enter Tryd.func13, Tryd.ntmps13
    go_wp2
    go_ret
    exact ⟨rfl, rfl⟩
  by_cases h2 : 256 < x0
  · go_enter Tryd.func13, Tryd.ntmps13
    go_wp2
    go_ret
    exact ⟨rfl, rfl⟩
  by_cases h3 : x1 < 1
  · go_enter Tryd.func13, Tryd.ntmps13
    go_wp2
    go_ret
    exact ⟨rfl, rfl⟩
  have h4 : 4096 < x1 := by omega
  go_enter Tryd.func13, Tryd.ntmps13
  go_wp2
  go_ret
  exact ⟨rfl, rfl⟩

/-- Where the document's book lies. -/
def RefAt (w : World) (B T r n m : Nat) (wl : List Int) : Prop :=
  ∃ gw cap, Bk w r 70 #[.slice (some ⟨gw, 0, none⟩) n cap, .int .i64 m] ∧ w.ownsRow B 3 1 (.slice (some ⟨gw, 0, none⟩) n cap) n (i64v wl) ∧ (B ≤ r ∧ r < T) ∧ gw < T ∧ wl.length = n
theorem RefAt.kept {w w' : World} {B T B' T' r n m : Nat} {wl : List Int} (h : RefAt w B' T' r n m wl) (hk : Kept B T w w') (hT : T ≤ B') : RefAt w' B' T' r n m wl := by
  obtain ⟨gw, cap, b1, h1, h2, r'⟩ := h
  exact ⟨gw, cap, (hk.2 r (by omega) b1.lt).trans b1, hk.own h1 hT, h2, r'⟩
theorem RefAt.below {w w' : World} {B T r n m : Nat} {wl : List Int} (h : RefAt w B T r n m wl) {B' : Nat} (hb : Below B' w w') (hB : w.heap.size ≤ B') : RefAt w' B T r n m wl := by
  obtain ⟨gw, cap, b1, h1, r'⟩ := h
  exact ⟨gw, cap, b1.below hb (by have := b1.lt; omega), own_below h1 hb hB, r'⟩
theorem BookAt.under {w w' : World} {B T g n m : Nat} {at_ : List Int} (h : BookAt w B T g n m at_) {B' : Nat} (hb : Below B' w w') (hB : T ≤ B') : BookAt w' B T g n m at_ := by
  obtain ⟨of, live, ga, go, gl, hi, hn, hm, b1, b2, b3, b4, r⟩ := h
  exact ⟨of, live, ga, go, gl, hi, hn, hm, b1.below hb (by omega), b2.below hb (by omega), b3.below hb (by omega), b4.below hb (by omega), r⟩

set_option maxRecDepth 100000 in
theorem newBook_any (n m : Nat) (hn : 0 < n) (hn2 : n ≤ 256) (hm2 : m ≤ 4096) (w : World) :
    Calls Tryd.prog 14 #[.int .i64 n, .int .i64 m] w fun e w' => ∃ r, e = .returned (.pointer (some ⟨r, 0, none⟩)) ∧ RefAt w' w.heap.size w'.heap.size r n m (List.replicate n (-1)) ∧ Below w.heap.size w w' := by
  obtain ⟨B, hB⟩ : ∃ B, B = w.heap.size := ⟨_, rfl⟩
  have HB := hide hB
  have hb0 : Below B w (w.alloc (.cells #[.slice none 0 0, .int .i64 m] 70)) := (Below.refl _ _).alloc (Nat.le_of_eq hB) _
  have hk0 : Bk (w.alloc (.cells #[.slice none 0 0, .int .i64 m] 70)) B 70 #[.slice none 0 0, .int .i64 m] := by rw [hB]; exact Bk.new _ _ _
  have hs0 : B < (w.alloc (.cells #[.slice none 0 0, .int .i64 m] 70)).heap.size := hk0.lt
  rw [← hB]
  clear hB
  go_enter Tryd.func14, Tryd.ntmps14
  go_wp2_with fail
  rw [← HB.out]
  go_loopw [6] (fun i wr => ∃ (k : Nat) (v : Value), i = .int .i64 k ∧ k ≤ n ∧ Bk wr B 70 #[v, .int .i64 m] ∧ wr.ownsRow B 3 1 v k (i64v (List.replicate k (-1))) ∧ Below B w wr) (fun i _ => n - (intOf i).toNat)
  case atStart => exact ⟨0, _, rfl, by omega, hk0, by simpa [i64v] using World.ownsRow_nil _ B 3 1, hb0⟩
  case round =>
    clear hk0 hb0 hs0
    obtain ⟨k, v, rfl, hk, hbk, hown, hb⟩ := hrel
    have hs := hbk.lt
    by_cases hlt : k < n
    · obtain ⟨D, c5, rfl, hc5, -, -, -, -⟩ := own_form hown
      have c0 := hbk.at_ (i := 0) (u := .slice D k c5) rfl
      have HS : Hid (List.replicate (k + 1) (-1 : Int) = List.replicate k (-1) ++ [-1]) := hide List.replicate_succ'
      have hne := own_bk_ne hown hbk (by decide)
      generalize List.replicate k (-1 : Int) = xs at hown HS
      go_wp2_with (first
        | (at_builtin
           obtain ⟨i0, hi0, hz0, hz1, hz2⟩ := info_parts int_info
           refine wpList_append_rd _ rfl (.tmp 19) (.tmp 20) 31 rfl B 3 i0 _ 8 Tryd.underlying31 hi0 hz0 hz1 hz2 rfl _ k (i64v xs) rfl (by exact hown.alloc _) _ 1 1 [.int .i64 (-1)] rfl rfl (Rd.one _ _ _) ?_ ?_ ?_ ?_ ?_
           · intro u hu; simp at hu; subst hu; rfl
           · simp only [maxLen]; omega
           · omega
           · simp; omega
           intro v' w5 hown5 hg5
           have hbk5 := (hbk.alloc (.cells #[.int .i64 (-1)] 3)).grown hg5 hne
           have hb5 := below_own (hb.alloc (Nat.le_of_lt hs) _) (hown.alloc _) hg5 (by simp; omega) (Nat.le_refl _)
           have q5 := hbk5.at_ (i := 0) rfl
           have f5 := hbk5.free 0
           obtain ⟨D6, c6, rfl, -, -, -, -, -⟩ := own_form hown5))
      go_roundw
      case rel =>
        rw [← i64v_snoc, ← HS.out] at hown5
        refine ⟨k + 1, _, by go_num, by omega, hbk5.put 0 _, ?_, hb5.setCell (Nat.le_refl _) _⟩
        exact ownsRow_setCell_other hown5 (Ne.symm (own_bk_ne hown5 hbk5 (by decide))) _
      case measure => simp [intOf]; omega
    · obtain rfl : k = n := by omega
      obtain ⟨gw, cap, cur, rfl, g1, g2, -⟩ := own_block hown hn
      go_wp2_with fail
      go_ret
      exact ⟨B, rfl, ⟨gw, cap, hbk, hown, ⟨Nat.le_refl _, hs⟩, g2, by simp⟩, hb⟩

theorem RefAt.open_ {w : World} {B T r n m : Nat} {wl : List Int} (h : RefAt w B T r n m wl) (hn : 0 < n) : ∃ gw cap cur, Bk w r 70 #[.slice (some ⟨gw, 0, none⟩) n cap, .int .i64 m] ∧
    w.heap[gw]? = some (.cells cur 3 (0, 0)) ∧ n ≤ cap ∧ cap ≤ maxLen ∧ cur.size = cap ∧ cur.toList.take n = i64v wl ∧ (B ≤ r ∧ r < T) ∧ B ≤ gw ∧ gw < T ∧ wl.length = n := by
  obtain ⟨gw, cap, b1, h1, h2, h3, h4⟩ := h
  obtain ⟨gw', cap', cur, hv, g1, g2, g3, g4, g5, g6, g7⟩ := own_block h1 hn
  injection hv with hA _ hc
  injection hA with hA
  injection hA with hA
  subst hA hc
  exact ⟨gw, cap, cur, b1, g3, g4, g5, g6, g7, h2, g1, h3, h4⟩
theorem take_at {cur : Array Value} {n : Nat} {wl : List Int} (h : cur.toList.take n = i64v wl) {i : Nat} (hi : i < n) (hl : wl.length = n) : cur[i]? = some (.int .i64 (wl.getD i 0)) := by
  have h1 : (cur.toList.take n)[i]? = (i64v wl)[i]? := by rw [h]
  rw [List.getElem?_take_of_lt hi, Array.getElem?_toList] at h1
  rw [h1]
  simp [i64v, List.getD, hl, hi]

theorem refOf_any (B T r n m : Nat) (wl : List Int) (p : Int) (w : World) (h : RefAt w B T r n m wl) (hn : 0 < n) (hn2 : n ≤ 256) :
    Calls Tryd.prog 38 #[.pointer (some ⟨r, 0, none⟩), .int .i64 p] w fun e w' => (((∀ l, l < n → wl.getD l 0 ≠ p) ∧ e = .returned (.int .i64 (-1))) ∨ (∃ l : Nat, l < n ∧ wl.getD l 0 = p ∧ e = .returned (.int .i64 l))) ∧ w = w' := by
  obtain ⟨gw, cap, cur, b1, h1, h2, -, -, h4, -, -, -, h5⟩ := h.open_ hn
  have c0 := b1.at_ (i := 0) (u := .slice (some ⟨gw, 0, none⟩) n cap) rfl
  have HC : Hid (∀ i, i < n → w.cell? ⟨gw, i, none⟩ = some (.int .i64 (wl.getD i 0))) := hide fun i hi => Bk.at_ (t := 3) h1 (take_at h4 hi h5)
  clear h1 h4 h5 h
  go_enter Tryd.func38, Tryd.ntmps38
  go_wp2_with fail
  go_loop [5] (fun i => ∃ k : Nat, i = .int .i64 k ∧ k ≤ n ∧ Hid (∀ l, l < k → wl.getD l 0 ≠ p)) (fun i => n - (intOf i).toNat)
  case atStart => exact ⟨0, rfl, by omega, hide fun l hl => by omega⟩
  case round =>
    obtain ⟨k, rfl, hk, HH⟩ := hrel
    by_cases hlt : k < n
    · have hc := HC.out k hlt
      obtain ⟨v, hv⟩ : ∃ v, v = wl.getD k 0 := ⟨_, rfl⟩
      rw [← hv] at hc
      have HV := hide hv
      clear hv
      by_cases he : v = p
      · have hd : (v == p) = true := by simpa using he
        have HE : Hid (wl.getD k 0 = p) := hide (by rw [← HV.out]; exact he)
        clear he
        go_wp2_with fail
        go_ret
        exact ⟨.inr ⟨k, hlt, HE.out, rfl⟩, rfl⟩
      · have hd : (v == p) = false := by simpa using he
        have HH2 : Hid (∀ l, l < k + 1 → wl.getD l 0 ≠ p) := hide fun l hl => by
          by_cases e : l = k
          · subst e; rw [← HV.out]; exact he
          · exact HH.out l (by omega)
        clear he
        go_wp2_with fail
        go_round
        case rel => exact ⟨k + 1, by go_num, by omega, HH2⟩
        case measure => simp [intOf]; omega
    · obtain rfl : k = n := by omega
      go_wp2_with fail
      go_ret
      exact ⟨.inl ⟨HH.out, rfl⟩, rfl⟩

theorem cnt_append (a b : List Int) (x y : Nat) : cnt (a ++ b) x y = cnt a x y + cnt b x y := by unfold cnt; rw [List.countP_append]
theorem cnt_le (l : List Int) (x y : Nat) : cnt l x y ≤ l.length := List.countP_le_length

theorem refLive_any (B T r n m : Nat) (wl : List Int) (a b : Nat) (w : World) (h : RefAt w B T r n m wl) (hn : 0 < n) (hn2 : n ≤ 256) :
    Calls Tryd.prog 39 #[.pointer (some ⟨r, 0, none⟩), .int .i64 a, .int .i64 b] w fun e w' => e = .returned (.int .i64 (cnt wl a b : Nat)) ∧ w = w' := by
  obtain ⟨gw, cap, cur, b1, h1, h2, -, -, h4, -, -, -, h5⟩ := h.open_ hn
  have c0 := b1.at_ (i := 0) (u := .slice (some ⟨gw, 0, none⟩) n cap) rfl
  have HC : Hid (∀ i, i < n → w.cell? ⟨gw, i, none⟩ = some (.int .i64 (wl.getD i 0))) := hide fun i hi => Bk.at_ (t := 3) h1 (take_at h4 hi h5)
  have HL := hide h5
  clear h1 h4 h5 h
  go_enter Tryd.func39, Tryd.ntmps39
  go_wp2_with fail
  go_loop [7, 8] (fun q i => ∃ k c : Nat, i = .int .i64 k ∧ q = .int .i64 c ∧ k ≤ n ∧ c ≤ k ∧ Hid (c = cnt (wl.take k) a b)) (fun _ i => n - (intOf i).toNat)
  case atStart => exact ⟨0, 0, rfl, rfl, by omega, by omega, hide (by simp [cnt])⟩
  case round =>
    obtain ⟨k, c, rfl, rfl, hk, hck, HH⟩ := hrel
    by_cases hlt : k < n
    · have hc := HC.out k hlt
      have HT : Hid (wl.take (k + 1) = wl.take k ++ [wl.getD k 0]) := hide (by rw [List.take_succ_eq_append_getElem (by rw [HL.out]; exact hlt)]; simp [List.getD, HL.out, hlt])
      obtain ⟨v, hv⟩ : ∃ v, v = wl.getD k 0 := ⟨_, rfl⟩
      rw [← hv] at hc HT
      clear hv
      by_cases h1 : (a : Int) ≤ v
      · by_cases h2 : v < (b : Int)
        · have HH2 : Hid (c + 1 = cnt (wl.take (k + 1)) a b) := hide (by rw [HT.out, cnt_append, ← HH.out]; simp [cnt, h1, h2])
          go_wp2_with fail
          go_round
          case rel => exact ⟨k + 1, c + 1, by go_num, by go_num, by omega, by omega, HH2⟩
          case measure => simp [intOf]; omega
        · have HH2 : Hid (c = cnt (wl.take (k + 1)) a b) := hide (by rw [HT.out, cnt_append, ← HH.out]; simp [cnt, h2])
          go_wp2_with fail
          go_round
          case rel => exact ⟨k + 1, c, by go_num, rfl, by omega, by omega, HH2⟩
          case measure => simp [intOf]; omega
      · have HH2 : Hid (c = cnt (wl.take (k + 1)) a b) := hide (by rw [HT.out, cnt_append, ← HH.out]; simp [cnt, h1])
        go_wp2_with fail
        go_round
        case rel => exact ⟨k + 1, c, by go_num, rfl, by omega, by omega, HH2⟩
        case measure => simp [intOf]; omega
    · obtain rfl : k = n := by omega
      have HH2 : Hid (c = cnt wl a b) := by rw [← List.take_of_length_le (Nat.le_of_eq HL.out)]; exact HH
      clear HH
      go_wp2_with fail
      go_ret
      exact ⟨by rw [HH2.out]; rfl, rfl⟩

theorem refPut {w : World} {B T r n m : Nat} {wl : List Int} {gw cap : Nat} {cur : Array Value} (b1 : Bk w r 70 #[.slice (some ⟨gw, 0, none⟩) n cap, .int .i64 m])
    (h1 : w.heap[gw]? = some (.cells cur 3 (0, 0))) (h2 : n ≤ cap) (h3 : cap ≤ maxLen) (hcs : cur.size = cap) (h4 : cur.toList.take n = i64v wl) (hr : B ≤ r ∧ r < T) (hg1 : B ≤ gw) (hg2 : gw < T) (h5 : wl.length = n) (l : Nat) (x : Int) :
    RefAt (w.setCell ⟨gw, l, none⟩ (.int .i64 x)) B T r n m (wl.set l x) := by
  have hne : r ≠ gw := bk_ne (t := 70) (e := 3) b1 h1 (by decide)
  refine ⟨gw, cap, b1.far hne _, ?_, hr, hg2, by rw [List.length_set]; exact h5⟩
  have := own_of_bk (n := n) (Bk.put (t := 3) h1 l (.int .i64 x)) hg1 h2 h3 (by rw [Array.size_setIfInBounds]; exact hcs)
  rw [Array.toList_setIfInBounds, List.take_set, h4, show (i64v wl).set l (.int .i64 x) = i64v (wl.set l x) by simp [i64v, List.map_set]] at this
  exact this

theorem refSet_any (B T r n m : Nat) (wl : List Int) (lba place : Int) (w : World) (h : RefAt w B T r n m wl) (hn : 0 < n) (hn2 : n ≤ 256)
    (hu : 0 ≤ place → ∀ l k : Nat, l < n → k < n → wl.getD l 0 = place → wl.getD k 0 = place → l = k) :
    Calls Tryd.prog 37 #[.pointer (some ⟨r, 0, none⟩), .int .i64 lba, .int .i64 place] w fun e w' => e = .returned (.int .i64 (setCode n m wl lba place)) ∧ RefAt w' B T r n m (afterSet n m wl lba place) ∧ Kept B T w w' := by
  have H0 := hide h
  have HU := hide hu
  obtain ⟨gw, cap, cur, b1, h1, h2, h3, hcs, h4, hr, hg1, hg2, h5⟩ := h.open_ hn
  have c0 := b1.at_ (i := 0) (u := .slice (some ⟨gw, 0, none⟩) n cap) rfl
  have c1 := b1.at_ (i := 1) (u := .int .i64 m) rfl
  by_cases hin : 0 ≤ lba ∧ lba < n ∧ 0 ≤ place ∧ place < m
  rotate_left
  · have HS := hide (setCode_range (at_ := wl) hin)
    rw [HS.out, afterSet_no (by rw [HS.out]; omega)]
    clear h1 h4 h5 h hu b1
    by_cases g1 : lba < 0
    · go_enter Tryd.func37, Tryd.ntmps37
      go_wp2_with fail
      go_ret
      exact ⟨rfl, H0.out, Kept.refl _ _ _⟩
    by_cases g2 : (n : Int) ≤ lba
    · go_enter Tryd.func37, Tryd.ntmps37
      go_wp2_with fail
      go_ret
      exact ⟨rfl, H0.out, Kept.refl _ _ _⟩
    by_cases g3 : place < 0
    · go_enter Tryd.func37, Tryd.ntmps37
      go_wp2_with fail
      go_ret
      exact ⟨rfl, H0.out, Kept.refl _ _ _⟩
    have g4 : (m : Int) ≤ place := by omega
    clear hin
    go_enter Tryd.func37, Tryd.ntmps37
    go_wp2_with fail
    go_ret
    exact ⟨rfl, H0.out, Kept.refl _ _ _⟩
  obtain ⟨i1, i2, i3, i4⟩ := hin
  obtain ⟨l, rfl⟩ := Int.eq_ofNat_of_zero_le i1
  have hc := Bk.at_ (t := 3) h1 (take_at h4 (i := l) (by omega) h5)
  have hf := Bk.free (t := 3) h1 l
  have HB1 := hide b1
  have HH1 := hide h1
  have HH4 := hide h4
  have HH5 := hide h5
  have HCS := hide hcs
  have HM : Hid (cap ≤ maxLen) := hide h3
  generalize wl.getD l 0 = old at hc
  have hne : r ≠ gw := bk_ne (t := 70) (e := 3) b1 h1 (by decide)
  clear h1 h4 h5 h hu b1 hcs h3
  go_enter Tryd.func37, Tryd.ntmps37
  go_wp2_with fail
  refine (refOf_any B T r n m wl place _ H0.out hn hn2).mono ?_
  rintro e w1 ⟨ho, rfl⟩
  rcases ho with ⟨hno, rfl⟩ | ⟨k, hk, hko, rfl⟩
  · have HS : Hid (setCode n m wl (l : Int) place = 0) := hide (setCode_ok ⟨i1, i2, i3, i4⟩ fun j hj hj2 => absurd hj2 (hno j hj))
    clear hno
    go_wp2_with fail
    go_ret
    exact ⟨by rw [HS.out]; rfl, by rw [afterSet_ok HS.out]; exact refPut HB1.out HH1.out h2 HM.out HCS.out HH4.out hr hg1 hg2 HH5.out _ _, Kept.setCell hg1 hg2 _⟩
  · by_cases hkl : k = l
    · subst hkl
      have HS : Hid (setCode n m wl (k : Int) place = 0) := hide (setCode_ok ⟨i1, i2, i3, i4⟩ fun j hj hj2 => by rw [HU.out i3 j k hj hk hj2 hko])
      have hd : ((k : Int) != (k : Int)) = false := by simp
      clear hko
      go_wp2_with fail
      go_ret
      exact ⟨by rw [HS.out]; rfl, by rw [afterSet_ok HS.out]; exact refPut HB1.out HH1.out h2 HM.out HCS.out HH4.out hr hg1 hg2 HH5.out _ _, Kept.setCell hg1 hg2 _⟩
    · have HS : Hid (setCode n m wl (l : Int) place = 10) := hide (setCode_state ⟨i1, i2, i3, i4⟩ hk hko (by omega))
      have hd : ((k : Int) != (l : Int)) = true := by simp; omega
      clear hko
      go_wp2_with fail
      go_ret
      exact ⟨by rw [HS.out]; rfl, by rw [afterSet_no (by rw [HS.out]; omega)]; exact H0.out, Kept.refl _ _ _⟩
end Go.Proofs.YthaoiilghphbiaaDoor.BookW
