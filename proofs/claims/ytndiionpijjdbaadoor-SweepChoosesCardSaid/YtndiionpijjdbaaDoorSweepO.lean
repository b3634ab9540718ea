/- The walks of slices.SortStableFunc and sweep.order. -/
import Derived.Test.YtndiionpijjdbaaDoorStabS
import Derived.Test.YtndiionpijjdbaaDoorSweepD
import Derived.Laws.AppendOwnNone

set_option linter.unusedVariables false
namespace Go.Proofs.YtndiionpijjdbaaDoor.SwW
open Go.RowKit I64 Stab

theorem ins_nil (A : Option Addr) (c : Nat) (F : Value) (w : World) : Calls Tryd.prog 29 #[.slice A 0 c, .int .i64 0, .int .i64 0, F] w fun e w' => e = .returned (.tuple #[]) ∧ w = w' := by
  go_enter Tryd.func29, Tryd.ntmps29
  go_wp2_with fail
  go_loop [8] (fun i => i = .int .i64 1) (fun i => 0)
  case atStart => exact rfl
  case round =>
    obtain rfl := hrel
    go_wp2_with fail
    go_end0
    exact ⟨rfl, rfl⟩
theorem stable_nil (A : Option Addr) (c : Nat) (F : Value) (w : World) : Calls Tryd.prog 23 #[.slice A 0 c, .int .i64 0, F] w fun e w' => e = .returned (.tuple #[]) ∧ w = w' := by
  go_enter Tryd.func23, Tryd.ntmps23
  go_wp2_with fail
  go_loop [7, 8] (fun a b => a = .int .i64 0 ∧ b = .int .i64 20) (fun a b => 0)
  case atStart => exact ⟨rfl, rfl⟩
  case round =>
    obtain ⟨rfl, rfl⟩ := hrel
    go_wp2_with fail
    refine (ins_nil A c F w).mono ?_
    rintro e w' ⟨rfl, rfl⟩
    go_wp2_with fail
    go_loop [6] (fun a => a = .int .i64 20) (fun a => 0)
    case atStart => exact rfl
    case round =>
      obtain rfl := hrel
      go_wp2_with fail
      go_end0
      exact ⟨rfl, rfl⟩
/-- Sorted, where there is anything to sort. -/
theorem sortS_any {C : Int → Int → Int} {W0 : World} {B : Nat} {cv : Value} {n0 : Int} (hC : Cmp C) (hcmp : CmpOk W0 B cv C n0) (g c n : Nat) (X : List Int) (tl : List Value) (w : World) (hW : Below B W0 w) (hBg : B ≤ g) (hb : IB w g X tl) (hX : X.Pairwise (· < ·)) (hin : ∀ u ∈ X, 0 ≤ u ∧ u < n0) (hn : n = X.length) (hn4 : n ≤ 4096) :
    Calls Tryd.prog 18 #[.slice (some ⟨g, 0, none⟩) n c, fv cv] w (SortP C w g [] X [] tl) := by
  have HS := hide (stable_any hC hcmp g c n X tl w hW hBg hb hX hin hn hn4)
  clear hC hcmp hW hb hX hin hn
  unfold fv at HS ⊢
  go_enter Tryd.func18, Tryd.ntmps18
  go_wp2_with fail
  refine HS.out.mono ?_
  rintro e w' ⟨Z, h1, h2, rfl, h3, h4⟩
  go_wp2_with fail
  go_end0
  exact ⟨Z, h1, h2, rfl, h3, h4⟩
theorem sortN_any (A : Option Addr) (c : Nat) (F : Value) (w : World) : Calls Tryd.prog 18 #[.slice A 0 c, F] w fun e w' => e = .returned (.tuple #[]) ∧ w = w' := by
  go_enter Tryd.func18, Tryd.ntmps18
  go_wp2_with fail
  refine (stable_nil A c F w).mono ?_
  rintro e w' ⟨rfl, rfl⟩
  go_wp2_with fail
  go_end0
  exact ⟨rfl, rfl⟩

/-- Those that may be emptied, of the first k. -/
def elig (S : Nat → Blk) (pages : Int) (k : Nat) : List Int := ((List.range k).filter (fun i => (S i).u && decide ((S i).lv < pages))).map (fun i : Nat => (i : Int))
theorem elig_succ (S : Nat → Blk) (pages : Int) (k : Nat) : elig S pages (k + 1) = elig S pages k ++ (if (S k).u && decide ((S k).lv < pages) then [(k : Int)] else []) := by
  unfold elig
  rw [List.range_succ, List.filter_append, List.map_append]
  congr 1
  by_cases h : ((S k).u && decide ((S k).lv < pages)) = true
  · rw [if_pos h]; simp [h]
  · rw [if_neg h]; simp [h]
theorem elig_mem {S : Nat → Blk} {pages : Int} {k : Nat} {u : Int} : u ∈ elig S pages k ↔ ∃ i : Nat, u = i ∧ i < k ∧ (S i).u = true ∧ (S i).lv < pages := by
  unfold elig
  simp only [List.mem_map, List.mem_filter, List.mem_range, Bool.and_eq_true, decide_eq_true_eq]
  constructor
  · rintro ⟨i, ⟨h1, h2, h3⟩, rfl⟩; exact ⟨i, rfl, h1, h2, h3⟩
  · rintro ⟨i, rfl, h1, h2, h3⟩; exact ⟨i, ⟨h1, h2, h3⟩, rfl⟩
theorem elig_pw (S : Nat → Blk) (pages : Int) (k : Nat) : (elig S pages k).Pairwise (· < ·) := by
  unfold elig
  refine List.pairwise_map.2 ?_
  refine (List.Pairwise.filter _ (List.pairwise_lt_range)).imp ?_
  intro a b h
  omega
theorem elig_len (S : Nat → Blk) (pages : Int) (k : Nat) : (elig S pages k).length ≤ k := by
  unfold elig
  rw [List.length_map]
  exact Nat.le_trans (List.length_filter_le _ _) (by rw [List.length_range]; exact Nat.le_refl _)

theorem i64v_one (l : List Int) : ∀ u ∈ i64v l, u.oneCell' = true := by
  intro u hu
  obtain ⟨x, _, rfl⟩ := List.mem_map.1 hu
  rfl
/-- What order leaves. -/
def OrdP (w : World) (S : Nat → Blk) (pages : Int) (n : Nat) (e : Ending) (w' : World) : Prop :=
  ∃ (Z : List Int) (A' : Option Addr) (c' : Nat), e = .returned (.slice A' Z.length c') ∧ Rd w' A' (i64v Z) ∧ Z.length ≤ c' ∧ c' ≤ maxLen ∧ Z.Perm (elig S pages n) ∧ Srt (ckey S) Z ∧ Below w.heap.size w w'
theorem rd_ib {w : World} {g : Nat} {L : List Int} {tl : List Value} (h : IB w g L tl) : Rd w (some ⟨g, 0, none⟩) (i64v L) := .inr ⟨g, 0, rfl, fun i u hu => by
  rw [Nat.zero_add]
  refine Bk.at_ h ?_
  rw [List.getElem?_toArray, List.getElem?_append_left (List.getElem?_eq_some_iff.1 hu).1]
  exact hu⟩
attribute [local irreducible] elig ckey Srt
set_option maxRecDepth 20000 in
set_option maxHeartbeats 4000000 in
theorem order_any (A : Option Addr) (n c : Nat) (S : Nat → Blk) (T : Nat) (pages : Int) (w : World) (hr : RdB w A n S T) (hT : T ≤ w.heap.size) (hn : n ≤ 64) :
    Calls Tryd.prog 16 #[.slice A n c, .int .i64 pages] w (OrdP w S pages n) := by
  obtain ⟨W1, hW1⟩ : ∃ W1, W1 = w.alloc (.cells #[.slice A n c] 23) := ⟨_, rfl⟩
  have hb1 : Below w.heap.size w W1 := by rw [hW1]; exact (Below.refl _ _).alloc (Nat.le_refl _) _
  have hs1 : W1.heap.size = w.heap.size + 1 := by rw [hW1]; simp
  have hq1 : W1.cell? ⟨w.heap.size, 0, none⟩ = some (.slice A n c) := by rw [hW1]; exact (Bk.new w _ #[.slice A n c]).at_ (i := 0) rfl
  have HR1 := hide (hr.below hb1 hT)
  have HB1 := hide hb1
  have HS1 := hide hs1
  have HQ1 := hide hq1
  have HLS := hide (less_any w.heap.size n c A S T W1 hq1 HR1.out W1.heap.size (by omega) (by omega) (by omega))
  rw [hW1] at hq1
  have HW1 := hide hW1
  have HTT : Hid (T ≤ W1.heap.size) := hide (by omega)
  clear hr hT hb1 hs1 hW1
  obtain ⟨i0, hi0, hz0, hz1, hz2⟩ := info_parts int_info
  go_enter Tryd.func16, Tryd.ntmps16
  go_wp2_with fail
  rw [← HW1.out]
  clear hq1
  go_loopw [5, 10] (fun l i wr => ∃ (k m cc : Nat) (D : Option Addr), l = .slice D m cc ∧ i = .int .i64 k ∧ k ≤ n ∧ m ≤ k ∧ Hid (m = (elig S pages k).length) ∧ Hid (wr.ownsRow W1.heap.size 3 1 (.slice D m cc) m (i64v (elig S pages k))) ∧ Hid (Below W1.heap.size W1 wr)) (fun _ i _ => n - (intOf i).toNat)
  case atStart => exact ⟨0, 0, 0, none, rfl, rfl, by omega, by omega, hide (by unfold elig; rfl), hide (by unfold elig; exact World.ownsRow_nil _ _ _ _), hide (Below.refl _ _)⟩
  case round =>
    obtain ⟨k, m, cc, D, rfl, rfl, hk, hmk, HM, HO, HB⟩ := hrel
    by_cases hlt : k < n
    · have e1 : decide (k < n) = true := by simpa using hlt
      have e1' : decide ((k : Int) < (n : Int)) = true := by simp; omega
      have hki : (k : Int) < (n : Int) := by omega
      obtain ⟨b, off, rfl, hbT, z0, z1, z2⟩ := (HR1.out.below HB.out HTT.out) k hlt
      have HES := hide (elig_succ S pages k)
      obtain ⟨x, hx⟩ : ∃ x, x = S k := ⟨_, rfl⟩
      rw [← hx] at z0 z1 z2 HES
      clear hx
      by_cases hu : x.u = true
      · rw [hu] at z0
        by_cases hl : x.lv < pages
        · have d1 : decide (x.lv < pages) = true := decide_eq_true hl
          have HE2 : Hid (elig S pages (k + 1) = elig S pages k ++ [(k : Int)]) := hide (by rw [HES.out, hu, d1]; rfl)
          have HAA : Hid (Below wr.heap.size wr ((wr.alloc (.cells #[.bool true, .int .i64 x.lv, .int .i64 x.wr] 42)).alloc (.cells #[.int .i64 (k : Int)] 3))) := hide (((Below.refl wr.heap.size wr).alloc (Nat.le_refl _) _).alloc (by simp) _)
          have HOA : Hid (((wr.alloc (.cells #[.bool true, .int .i64 x.lv, .int .i64 x.wr] 42)).alloc (.cells #[.int .i64 (k : Int)] 3)).ownsRow W1.heap.size 3 1 (.slice D m cc) m (i64v (elig S pages k))) := hide (own_below HO.out HAA.out (Nat.le_refl _))
          have HRA : Hid (Rd ((wr.alloc (.cells #[.bool true, .int .i64 x.lv, .int .i64 x.wr] 42)).alloc (.cells #[.int .i64 (k : Int)] 3)) (some ⟨wr.heap.size + 1, 0, none⟩) [.int .i64 (k : Int)]) := hide (Rd.new (wr.alloc (.cells #[.bool true, .int .i64 x.lv, .int .i64 x.wr] 42)) (wr.heap.size + 1) 3 #[.int .i64 (k : Int)] (0, 0) _ (by simp) rfl)
          have HSA : Hid (W1.heap.size ≤ ((wr.alloc (.cells #[.bool true, .int .i64 x.lv, .int .i64 x.wr] 42)).alloc (.cells #[.int .i64 (k : Int)] 3)).heap.size) := hide (Nat.le_trans HB.out.size HAA.out.size)
          have HON : Hid (∀ u ∈ [(.int .i64 (k : Int) : Value)], u.oneCell' = true) := hide (by intro u hu; simp at hu; subst hu; rfl)
          have hb1 : m + 1 ≤ maxLen := by simp only [maxLen]; omega
          have hb2 : (m + 1) * 8 ≤ 140737488355328 := by omega
          clear hl hu
          go_wp2_with (first
            | (at_builtin
               refine wpList_append_rd _ rfl (.tmp 23) (.tmp 25) 25 rfl W1.heap.size 3 i0 _ 8 Tryd.underlying25 hi0 hz0 hz1 hz2 rfl _ m (i64v (elig S pages k)) rfl HOA.out _ 1 1 [.int .i64 (k : Int)] rfl rfl HRA.out HON.out hb1 hb2 HSA.out ?_
               intro v' w5 hown5 hg5
               obtain ⟨D', c', rfl, hc', -, -, -, -⟩ := own_form hown5
               have HB5 : Hid (Below W1.heap.size W1 w5) := hide (below_own (HB.out.trans (HAA.out.mono HB.out.size)) HOA.out hg5 HSA.out (Nat.le_refl _))
               have HO5 : Hid (w5.ownsRow W1.heap.size 3 1 (.slice D' (m + 1) c') (m + 1) (i64v (elig S pages (k + 1)))) := hide (by
                 rw [HE2.out, show i64v (elig S pages k ++ [(k : Int)]) = i64v (elig S pages k) ++ [.int .i64 k] from by simp [i64v]]
                 exact hown5)
               clear hown5 hg5 hc'))
          go_roundw
          case rel => exact ⟨k + 1, m + 1, c', D', rfl, by go_num, by omega, by omega, hide (by rw [HE2.out, List.length_append, ← HM.out]; rfl), HO5, HB5⟩
          case measure => simp [intOf]; omega
        · have d1 : decide (x.lv < pages) = false := decide_eq_false hl
          have HE2 : Hid (elig S pages (k + 1) = elig S pages k) := hide (by rw [HES.out, hu, d1]; simp)
          have HB5 : Hid (Below W1.heap.size W1 (wr.alloc (.cells #[.bool true, .int .i64 x.lv, .int .i64 x.wr] 42))) := hide (HB.out.alloc HB.out.size _)
          have HO5 : Hid ((wr.alloc (.cells #[.bool true, .int .i64 x.lv, .int .i64 x.wr] 42)).ownsRow W1.heap.size 3 1 (.slice D m cc) m (i64v (elig S pages (k + 1)))) := hide (by rw [HE2.out]; exact own_below HO.out ((Below.refl _ _).alloc (Nat.le_refl _) _) (Nat.le_refl _))
          clear hl hu
          go_wp2_with fail
          go_roundw
          case rel => exact ⟨k + 1, m, cc, D, rfl, by go_num, by omega, by omega, hide (by rw [HE2.out]; exact HM.out), HO5, HB5⟩
          case measure => simp [intOf]; omega
      · have hu2 : x.u = false := by simpa using hu
        rw [hu2] at z0
        have HE2 : Hid (elig S pages (k + 1) = elig S pages k) := hide (by rw [HES.out, hu2]; simp)
        have HB5 : Hid (Below W1.heap.size W1 (wr.alloc (.cells #[.bool false, .int .i64 x.lv, .int .i64 x.wr] 42))) := hide (HB.out.alloc HB.out.size _)
        have HO5 : Hid ((wr.alloc (.cells #[.bool false, .int .i64 x.lv, .int .i64 x.wr] 42)).ownsRow W1.heap.size 3 1 (.slice D m cc) m (i64v (elig S pages (k + 1)))) := hide (by rw [HE2.out]; exact own_below HO.out ((Below.refl _ _).alloc (Nat.le_refl _) _) (Nat.le_refl _))
        clear hu hu2
        go_wp2_with fail
        go_roundw
        case rel => exact ⟨k + 1, m, cc, D, rfl, by go_num, by omega, by omega, hide (by rw [HE2.out]; exact HM.out), HO5, HB5⟩
        case measure => simp [intOf]; omega
    · obtain rfl : k = n := by omega
      have e1 : decide (k < k) = false := by simp
      have e1' : decide ((k : Int) < (k : Int)) = false := by simp
      have HBW : Hid (Below w.heap.size w wr) := hide (HB1.out.trans (HB.out.mono HB1.out.size))
      by_cases hm0 : m = 0
      · subst hm0
        have HE0 : Hid (elig S pages k = []) := hide (List.eq_nil_of_length_eq_zero HM.out.symm)
        have HSN : Hid (∀ F w, Calls Tryd.prog 18 #[.slice D 0 cc, F] w fun e w' => e = .returned (.tuple #[]) ∧ w = w') := hide (fun F w => sortN_any D cc F w)
        have HCM : Hid (cc ≤ maxLen) := hide (by
          rcases HO.out.2 with ⟨h1, -⟩ | ⟨g, cap, cur, h1, -, -, -, h2, -⟩
          · injection h1 with _ _ h1; rw [h1]; exact Nat.zero_le _
          · injection h1 with _ _ h1; rw [h1]; exact h2)
        go_wp2_with fail
        refine (HSN.out _ _).mono ?_
        rintro e w2 ⟨rfl, rfl⟩
        go_wp2_with fail
        go_ret
        exact ⟨[], D, cc, rfl, Rd.nil _ _, Nat.zero_le _, HCM.out, by rw [HE0.out], by unfold Srt; exact List.Pairwise.nil, HBW.out⟩
      · obtain ⟨g, cap, cur, hv, hg1, hg2, hcur, hnc, hcm, hcs, htk⟩ := own_block HO.out (by omega)
        injection hv with hv1 hv2 hv3
        subst hv1
        subst hv3
        have HIB : Hid (IB wr g (elig S pages k) (cur.toList.drop m)) := hide (by
          unfold IB Bk
          rw [hcur, ← htk, List.take_append_drop, Array.toArray_toList])
        have HGG := hide (And.intro hg1 (And.intro hnc hcm))
        clear hv2 hcur hcs htk hg1 hg2 hnc hcm
        have HSS := hide (sortS_any (ckey_cmp S) HLS.out g cc m (elig S pages k) (cur.toList.drop m) wr HB.out HGG.out.1 HIB.out (elig_pw S pages k) (fun u hu => (by obtain ⟨i, rfl, h1, -⟩ := elig_mem.1 hu; omega)) HM.out (by omega))
        unfold fv at HSS
        go_wp2_with fail
        refine HSS.out.mono ?_
        rintro e w2 ⟨Z, hz1, hz2, rfl, hz3, hz4⟩
        have HZ1 := hide hz1
        have HZ2 := hide hz2
        have HZ3 : Hid (Rd w2 (some ⟨g, 0, none⟩) (i64v Z)) := hide (by
          have h := hz3
          rw [List.nil_append, List.append_nil] at h
          exact rd_ib h)
        have HBZ : Hid (Below w.heap.size w w2) := hide (HBW.out.trans ⟨hz4.os, hz4.tape, hz4.output, hz4.size, fun j hj => hz4.block j (by have := HBW.out.size; omega) (fun e => by injection e with e; have := HGG.out.1; have := HS1.out; omega)⟩)
        have HZL : Hid (Z.length = m) := hide (by rw [hz1.length_eq, HM.out])
        clear hz1 hz2 hz3 hz4
        go_wp2_with fail
        go_ret
        exact ⟨Z, some ⟨g, 0, none⟩, cc, by rw [HZL.out]; rfl, HZ3.out, by rw [HZL.out]; exact HGG.out.2.1, HGG.out.2.2, HZ1.out, HZ2.out, HBZ.out⟩
end Go.Proofs.YtndiionpijjdbaaDoor.SwW
