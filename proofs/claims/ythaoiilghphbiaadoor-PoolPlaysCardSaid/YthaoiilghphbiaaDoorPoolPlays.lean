/- The walk of granarylaw1.PoolPlays: true, and nothing that was there is written. -/
import Derived.Test.YthaoiilghphbiaaDoorPoolRef
import Derived.Test.YthaoiilghphbiaaDoorPoolMore
import Derived.Test.YthaoiilghphbiaaDoorScript
import Derived.Test.YthaoiilghphbiaaDoorTold
import Derived.Deep.DeepCutAuto
set_option linter.unusedVariables false
namespace Go.Proofs.YthaoiilghphbiaaDoor.PoolW
open Go.RowKit HeapP HeapW I64 ToldW

/-- What the making of the document's pool leaves. -/
def MadeR (w : World) (n : Nat) (sp : Int) (v : Value) (wx : World) : Prop := ∃ r, v = .pointer (some ⟨r, 0, none⟩) ∧ RPoolAt wx w.heap.size wx.heap.size r n sp (List.replicate n 0) (List.replicate n 0) ∧ Below w.heap.size w wx

/-- Both pools say the same. -/
def Both (w : World) (B C D g r n o : Nat) (sp : Int) (st we : List Int) : Prop := PoolAt w B (fun x => (C ≤ x ∧ x < D) ∨ x = o) g n sp st we ∧ RPoolAt w C D r n sp st we ∧ D ≤ w.heap.size ∧ o < w.heap.size
theorem Both.below {w w' : World} {B C D g r n o : Nat} {sp : Int} {st we : List Int} (h : Both w B C D g r n o sp st we) (hb : Below w.heap.size w w') : Both w' B C D g r n o sp st we :=
  ⟨h.1.below hb, h.2.1.below hb, Nat.le_trans h.2.2.1 hb.size, Nat.lt_of_lt_of_le h.2.2.2 hb.size⟩
/-- A call on the one, then one on the other. -/
theorem Both.step {w w1 w2 : World} {B C D g r n o : Nat} {sp : Int} {st we st' we' : List Int} (h : Both w B C D g r n o sp st we) (hk : Keeps B (fun x => (C ≤ x ∧ x < D) ∨ x = o) w w1) (hp : PoolAt w1 B (fun x => (C ≤ x ∧ x < D) ∨ x = o) g n sp st' we') (hr : Kept C D w1 w2) (hq : RPoolAt w2 C D r n sp st' we') (hDo : D ≤ o) (hBC : B ≤ C) : Both w2 B C D g r n o sp st' we' :=
  ⟨hp.other fun x _ hx hlt => by
      by_cases h1 : x < C
      · exact hr.1.block x h1
      · exact hr.2 x (by omega) hlt, hq, Nat.le_trans h.2.2.1 (Nat.le_trans hk.1.size hr.1.size), Nat.lt_of_lt_of_le h.2.2.2 (Nat.le_trans hk.1.size hr.1.size)⟩
theorem Both.ref {w w1 : World} {B C D g r n o : Nat} {sp : Int} {st we : List Int} (h : Both w B C D g r n o sp st we) (hk : Keeps B (fun x => (C ≤ x ∧ x < D) ∨ x = o) w w1) : RPoolAt w1 C D r n sp st we :=
  h.2.1.same fun x h1 h2 h3 => hk.2 x (.inl ⟨h1, h2⟩) h3

theorem both_of {w : World} {B C D g r n o : Nat} {sp : Int} {st we : List Int} (h1 : PoolAt w B (fun x => (C ≤ x ∧ x < D) ∨ x = o) g n sp st we) (h2 : RPoolAt w C D r n sp st we) (h3 : D ≤ w.heap.size) (h4 : o < w.heap.size) : Both w B C D g r n o sp st we := ⟨h1, h2, h3, h4⟩
theorem Both.pool {w : World} {B C D g r n o : Nat} {sp : Int} {st we : List Int} (h : Both w B C D g r n o sp st we) : PoolAt w B (fun x => (C ≤ x ∧ x < D) ∨ x = o) g n sp st we := h.1
theorem Both.rpool {w : World} {B C D g r n o : Nat} {sp : Int} {st we : List Int} (h : Both w B C D g r n o sp st we) : RPoolAt w C D r n sp st we := h.2.1
theorem Both.dle {w : World} {B C D g r n o : Nat} {sp : Int} {st we : List Int} (h : Both w B C D g r n o sp st we) : D ≤ w.heap.size := h.2.2.1
theorem Both.back {w : World} {B C D g r n o : Nat} {sp : Int} {st we : List Int} (h : Both w B C D g r n o sp st we) : PoolAt w B (fun x => C ≤ x ∧ x < D) g n sp st we := h.1.avoid fun x hx => .inl (.inl hx)
theorem Both.wear {w : World} {B C D g r n o : Nat} {sp : Int} {st we : List Int} (h : Both w B C D g r n o sp st we) {k : Nat} (hk : k < n) : ∃ rb, w.cell? ⟨r, 2, none⟩ = some (.slice (some ⟨rb, 0, none⟩) n n) ∧ w.cell? ⟨rb, k, none⟩ = some (.int .i64 (we.getD k 0)) := by
  obtain ⟨-, ⟨ra, rb, b1, b2, b3, h1, h2, -⟩, -⟩ := h
  exact ⟨rb, b1.at_ (i := 2) rfl, b3.at_ (i64v_at we k (by omega))⟩
theorem rpool_of {w : World} {B T r n : Nat} {sp : Int} {st wr : List Int} (ra rb : Nat) (b1 : Bk w r 57 #[.int .i64 sp, .slice (some ⟨ra, 0, none⟩) n n, .slice (some ⟨rb, 0, none⟩) n n]) (b2 : Bk w ra 3 (i64v st).toArray) (b3 : Bk w rb 3 (i64v wr).toArray) (h1 : st.length = n) (h2 : wr.length = n) (h3 : ra ≠ rb) (h4 : B ≤ r ∧ r < T) (h5 : B ≤ ra ∧ ra < T) (h6 : B ≤ rb ∧ rb < T) : RPoolAt w B T r n sp st wr := ⟨ra, rb, b1, b2, b3, h1, h2, h3, h4, h5, h6⟩
theorem PoolAt.hB' {w : World} {B g n : Nat} {P : Nat → Prop} {sp : Int} {st we : List Int} (h : PoolAt w B P g n sp st we) : B ≤ w.heap.size := by
  obtain ⟨ga, gb, ge, cap, hp, h⟩ := h
  exact h.hB
theorem least_zero {n : Nat} {st we : List Int} {b : Nat} (h : LeastFree n st we b) : st.getD b 0 = 0 := h.2.1
theorem least_lt {n : Nat} {st we : List Int} {b : Nat} (h : LeastFree n st we b) : b < n := h.1
theorem least_mk {n : Nat} {st we : List Int} {b : Nat} (h1 : b < n) (h2 : st.getD b 0 = 0) (h3 : ∀ k : Nat, k < n → st.getD k 0 = 0 → ¬ lt (we.getD k 0, (k : Int)) (we.getD b 0, (b : Int))) : LeastFree n st we b := ⟨h1, h2, h3⟩

attribute [local irreducible] swp el lt EB Hp flat zeros fcode PoolAt RPoolAt Few LeastFree Both

set_option maxRecDepth 100000 in
set_option maxHeartbeats 8000000 in
theorem plays_law (w : World) (hE : ErrT w) (x0 : Int) (a0 : -9223372036854775808 ≤ x0) (b0 : x0 ≤ 9223372036854775807) (x1 : Int) (a1 : -9223372036854775808 ≤ x1) (b1 : x1 ≤ 9223372036854775807)
    (A2 : Option Addr) (n2 c2 : Nat) (X2 : Nat → Nat → Int) (hn2 : n2 ≤ c2) (hc2 : c2 ≤ maxLen) (hx2 : ∀ i j, -9223372036854775808 ≤ X2 i j ∧ X2 i j ≤ 9223372036854775807) (hr2 : RdS w A2 n2 2 (fun i j => .int .i64 (X2 i j))) :
    Calls Tryd.prog 7 #[.int .i64 x0, .int .i64 x1, .slice A2 n2 c2] w fun e w' => e = .returned (.bool true) ∧ Below w.heap.size w w' := by
  have hc2' : n2 ≤ 9223372036854775807 := Nat.le_trans hn2 hc2
  have HX := hide hx2
  have HE := hide hE
  clear hc2 hx2 hE
  by_cases hr : x0 < 1 ∨ 64 < x0 ∨ x1 < 0 ∨ x0 < x1
  · go_enter Tryd.func7, Tryd.ntmps7
    go_wp2_with fail
    refine (new_range x0 x1 _ hr).mono ?_
    rintro e w2 ⟨rfl, rfl⟩
    unfold errV
    go_wp2_with fail
    refine (rfault_range x0 x1 _ hr).mono ?_
    rintro e w2 ⟨rfl, rfl⟩
    go_wp2_with fail
    refine (error_some 1 1 _ HE.out true rfl).mono ?_
    rintro e w2 ⟨rfl, hb⟩
    go_wp2_with fail
    go_ret
    exact ⟨rfl, hb⟩
  obtain ⟨n, rfl⟩ := Int.eq_ofNat_of_zero_le (show 0 ≤ x0 by omega)
  have hn : 0 < n ∧ n ≤ 64 := by omega
  have hs : 0 ≤ x1 ∧ x1 ≤ n := by omega
  clear hr
  obtain ⟨M, hM, hM2⟩ := madeV n
  have hmk := fun w => run_make_row' (P := Tryd.prog) 31 3 (.int .i64 0) 8 Tryd.underlying31 int_info rfl .i64 .i64 n (by omega) (by omega) w
  rw [← hM] at hmk
  have HM2 := hide hM2
  clear hM hM2
  go_enter Tryd.func7, Tryd.ntmps7
  go_wp2_with fail
  refine (new_ok n x1 hn.1 hn.2 hs.1 hs.2 (fun _ => False) _ (fun _ h => h.elim)).mono ?_
  rintro e w2 ⟨g, rfl, hp2, hb2⟩
  obtain ⟨B, hB⟩ : ∃ B, B = w.heap.size := ⟨_, rfl⟩
  rw [← hB] at hp2
  have hsz : w.heap.size ≤ B := Nat.le_of_eq hB.symm
  clear hB
  go_wp2_with fail
  refine (rfault_ok n x1 hn.1 hn.2 hs.1 hs.2 _).mono ?_
  rintro e w3 ⟨rfl, rfl⟩
  go_wp2_with fail
  refine (error_nil 0 _ true rfl).mono ?_
  rintro e w3 ⟨rfl, hb3⟩
  have hp3 := hp2.below hb3
  have hw3 := hb2.trans (hb3.mono hb2.size)
  clear hp2 hb2 hb3
  go_wp2_with fail
  go_cut [11] (fun v wx => MadeR w3 n x1 v wx)
  case first =>
    go_region
    all_goals
      go_wp2_with fail
      go_meet
      have hbel := ((((Below.refl w3.heap.size w3).alloc (Nat.le_refl _) (.cells M 3)).alloc (by simp) (.cells M 3)).alloc (by simp; omega) (.cells #[.int .i64 x1, .slice (some ⟨w3.heap.size, 0, none⟩) n n, .slice (some ⟨w3.heap.size + 1, 0, none⟩) n n] 57)).drew
      have hbel2 := ((((Below.refl w3.heap.size w3).alloc (Nat.le_refl _) (.cells M 3)).alloc (by simp) (.cells M 3)).alloc (by simp; omega) (.cells #[.int .i64 x1, .slice (some ⟨w3.heap.size + 1, 0, none⟩) n n, .slice (some ⟨w3.heap.size, 0, none⟩) n n] 57)).drew
      first
        | exact ⟨_, rfl, rpool_of w3.heap.size (w3.heap.size + 1) (PoolW.c2 w3 _ _ _ _).drew (by { rw [← HM2.out]; exact (PoolW.c0 w3 _ _ _ _).drew }) (by { rw [← HM2.out]; exact (PoolW.c1 w3 _ _ _ _).drew }) (by simp) (by simp) (by omega) (by simp <;> omega) (by simp <;> omega) (by simp <;> omega), hbel⟩
        | exact ⟨_, rfl, rpool_of (w3.heap.size + 1) w3.heap.size (PoolW.c2 w3 _ _ _ _).drew (by { rw [← HM2.out]; exact (PoolW.c1 w3 _ _ _ _).drew }) (by { rw [← HM2.out]; exact (PoolW.c0 w3 _ _ _ _).drew }) (by simp) (by simp) (by omega) (by simp <;> omega) (by simp <;> omega) (by simp <;> omega), hbel2⟩
  case rest =>
    obtain ⟨r, rfl, hrp, hb4⟩ := hcut
    obtain ⟨C, hC⟩ : ∃ C, C = w3.heap.size := ⟨_, rfl⟩
    obtain ⟨D, hD⟩ : ∃ D, D = wc.heap.size := ⟨_, rfl⟩
    rw [← hC, ← hD] at hrp
    have hDs : D ≤ wc.heap.size := Nat.le_of_eq hD
    have hBC : B ≤ C := by rw [hC]; exact Nat.le_trans (PoolAt.hB' hp3) (Nat.le_refl _)
    have hp4 := (hp3.avoid (P' := fun x => C ≤ x ∧ x < D) (fun x hx => .inr (by rw [← hC]; exact hx.1))).below hb4
    have hw4 := hw3.trans (hb4.mono hw3.size)
    clear hp3 hb4 hw3 hC hD hmk HM2
    go_wp2_with fail
    go_loopw [12] (fun i wr' => ∃ (j : Nat) (st wear : List Int), i = .int .i64 j ∧ j ≤ n2 ∧ Few n wear j ∧ PoolAt wr' B (fun x => C ≤ x ∧ x < D) g n x1 st wear ∧ RPoolAt wr' C D r n x1 st wear ∧ D ≤ wr'.heap.size ∧ Below w.heap.size w wr') (fun i _ => n2 - (intOf i).toNat)
    case atStart => exact ⟨0, _, _, rfl, by omega, few_zero n, hp4, hrp, hDs, hw4⟩
    case round =>
      clear hp4 hrp hDs hw4
      obtain ⟨j, st, wear, rfl, hj, hfew, hp, hq, hDs, hb⟩ := hrel
      by_cases hlt : j < n2
      · obtain ⟨b, off, rfl, hbl, hcell⟩ := (hr2.below hb).at_ hlt
        have q0 := hcell 0 (by omega)
        have q1 := hcell 1 (by omega)
        rw [← Nat.add_assoc] at q0 q1
        rw [Nat.add_zero] at q0
        have v0 := HX.out j 0
        have v1 := HX.out j 1
        generalize X2 j 0 = y0 at q0 v0
        generalize X2 j 1 = y1 at q1 v1
        clear hcell
        have hbA : Below wr.heap.size wr (wr.alloc (.cells #[.int .i64 y0, .int .i64 y1] 50)) := (Below.refl _ _).alloc (Nat.le_refl _) _
        have hoA := Bk.new wr 50 #[.int .i64 y0, .int .i64 y1]
        have hlen := hp.lens
        have hboA : Both (wr.alloc (.cells #[.int .i64 y0, .int .i64 y1] 50)) B C D g r n wr.heap.size x1 st wear :=
          both_of ((hp.avoid (P' := fun x => (C ≤ x ∧ x < D) ∨ x = wr.heap.size) (fun x hx => hx.imp id (fun e => Nat.le_of_eq e.symm))).below hbA) (hq.below hbA) (Nat.le_trans hDs hbA.size) hoA.lt
        have hwA := hb.trans (hbA.mono hb.size)
        have HFW := hide hfew
        have HLN := hide (And.intro hlen.1 hlen.2.1)
        have hwear := few_any HFW.out y1.toNat
        obtain ⟨o, ho⟩ : ∃ o, o = wr.heap.size := ⟨_, rfl⟩
        have hDo : D ≤ o := by omega
        have HO := hide ho
        rw [← ho] at hoA hboA
        have hPO : ∀ y, ((C ≤ y ∧ y < D) ∨ y = o) → y < (wr.alloc (.cells #[.int .i64 y0, .int .i64 y1] 50)).heap.size := fun y hy => by
          rcases hy with h | rfl
          · have := hboA.dle; omega
          · exact hoA.lt
        have HPO := hide hPO
        have o0 := hoA.at_ (i := 0) (u := .int .i64 y0) rfl
        have o1 := hoA.at_ (i := 1) (u := .int .i64 y1) rfl
        clear hfew hbA hp hq hlen hb ho hPO
        by_cases k1 : y0 = 1
        · subst k1
          go_wp2_with fail
          refine (take_any B _ g n x1 st wear _ hboA.pool).mono ?_
          rintro e w7 ⟨hk7, ht7⟩
          have hrf := hboA.ref hk7
          rcases ht7 with ⟨hl, rfl, hp7⟩ | ⟨hl, hno, rfl, hp7⟩ | ⟨hl, b', hbn, hb0, hmin, rfl, hp7⟩
          · have HL := hide hl
            unfold errV
            clear hl
            go_wp2_with fail
            refine (refTake_any C D r n x1 st wear _ hrf hn.2).mono ?_
            rintro e w8 ⟨hk8, ⟨-, rfl, hq8⟩ | ⟨h, -⟩ | ⟨h, -⟩⟩
            · have hbo8 := hboA.step hk7 hp7 hk8 hq8 hDo hBC
              have hw8 := hwA.trans ((hk7.1.mono hsz).trans (hk8.1.mono (Nat.le_trans hsz hBC)))
              clear hk7 hk8 hp7 hq8 hrf
              go_wp2_with fail
              refine (error_some 9 9 _ (HE.out.below hw8 (Nat.le_refl _)) true (by simp)).mono ?_
              rintro e w9 ⟨rfl, hb9⟩
              have hw9 := hw8.trans (hb9.mono hw8.size)
              have hbo9 := hbo8.below hb9
              clear hbo8 hw8 hb9
              have HF2 := hide (few_more HFW.out)
              have s0 : ((((st).count 0 : Nat) : Int) != (((st).count 0 : Nat) : Int)) = false := by simp
              have s1 : ((((st).count 1 : Nat) : Int) != (((st).count 1 : Nat) : Int)) = false := by simp
              have s2 : ((((st).count 2 : Nat) : Int) != (((st).count 2 : Nat) : Int)) = false := by simp
              clear hoA o1 hboA hwA
              try clear o17
              try clear o0
              go_wp2_with fail
              refine (count_any B _ g n x1 st wear _ hbo9.pool).mono ?_
              rintro e w10 ⟨rfl, hb10⟩
              have hbo10 := hbo9.below hb10
              have hw10 := hw9.trans (hb10.mono hw9.size)
              clear hbo9 hw9 hb10
              go_wp2_with fail
              refine (many_any C D r n x1 0 st wear _ hbo10.rpool hn.2).mono ?_
              rintro e w11 ⟨rfl, rfl⟩
              go_wp2_with fail
              refine (many_any C D r n x1 1 st wear _ hbo10.rpool hn.2).mono ?_
              rintro e w11 ⟨rfl, rfl⟩
              go_wp2_with fail
              refine (many_any C D r n x1 2 st wear _ hbo10.rpool hn.2).mono ?_
              rintro e w11 ⟨rfl, rfl⟩
              go_wp2_with fail
              refine (latched_any B _ g n x1 st wear _ hbo10.pool).mono ?_
              rintro e w11 ⟨rfl, hb11⟩
              have hbo11 := hbo10.below hb11
              have hw11 := hw10.trans (hb11.mono hw10.size)
              clear hbo10 hw10 hb11
              go_wp2_with fail
              refine (refLatched_any C D r n x1 st wear _ hbo11.rpool hn.2).mono ?_
              rintro e w12 ⟨rfl, rfl⟩
              obtain ⟨bl, hbl2⟩ : ∃ bl, decide (x1 < (((st).count 2 : Nat) : Int)) = bl := ⟨_, rfl⟩
              rw [hbl2]
              have s3 : (bl != bl) = false := by simp
              clear hbl2
              go_wp2_with fail
              go_roundw
              case rel => exact ⟨j + 1, _, _, by go_num, by omega, HF2.out, hbo11.back, hbo11.rpool, hbo11.dle, hw11⟩
              case measure => simp [intOf]; omega
            · have := HL.out; omega
            · have := HL.out; omega
          · have HL := hide hl
            have HNO := hide hno
            unfold errV
            clear hl hno
            go_wp2_with fail
            refine (refTake_any C D r n x1 st wear _ hrf hn.2).mono ?_
            rintro e w8 ⟨hk8, ⟨h, -⟩ | ⟨-, -, rfl, hq8⟩ | ⟨-, b', h, -⟩⟩
            · have := HL.out; omega
            · have hbo8 := hboA.step hk7 hp7 hk8 hq8 hDo hBC
              have hw8 := hwA.trans ((hk7.1.mono hsz).trans (hk8.1.mono (Nat.le_trans hsz hBC)))
              clear hk7 hk8 hp7 hq8 hrf
              go_wp2_with fail
              refine (error_some 4 4 _ (HE.out.below hw8 (Nat.le_refl _)) true (by simp)).mono ?_
              rintro e w9 ⟨rfl, hb9⟩
              have hw9 := hw8.trans (hb9.mono hw8.size)
              have hbo9 := hbo8.below hb9
              clear hbo8 hw8 hb9
              have HF2 := hide (few_more HFW.out)
              have s0 : ((((st).count 0 : Nat) : Int) != (((st).count 0 : Nat) : Int)) = false := by simp
              have s1 : ((((st).count 1 : Nat) : Int) != (((st).count 1 : Nat) : Int)) = false := by simp
              have s2 : ((((st).count 2 : Nat) : Int) != (((st).count 2 : Nat) : Int)) = false := by simp
              clear hoA o1 hboA hwA
              try clear o17
              try clear o0
              go_wp2_with fail
              refine (count_any B _ g n x1 st wear _ hbo9.pool).mono ?_
              rintro e w10 ⟨rfl, hb10⟩
              have hbo10 := hbo9.below hb10
              have hw10 := hw9.trans (hb10.mono hw9.size)
              clear hbo9 hw9 hb10
              go_wp2_with fail
              refine (many_any C D r n x1 0 st wear _ hbo10.rpool hn.2).mono ?_
              rintro e w11 ⟨rfl, rfl⟩
              go_wp2_with fail
              refine (many_any C D r n x1 1 st wear _ hbo10.rpool hn.2).mono ?_
              rintro e w11 ⟨rfl, rfl⟩
              go_wp2_with fail
              refine (many_any C D r n x1 2 st wear _ hbo10.rpool hn.2).mono ?_
              rintro e w11 ⟨rfl, rfl⟩
              go_wp2_with fail
              refine (latched_any B _ g n x1 st wear _ hbo10.pool).mono ?_
              rintro e w11 ⟨rfl, hb11⟩
              have hbo11 := hbo10.below hb11
              have hw11 := hw10.trans (hb11.mono hw10.size)
              clear hbo10 hw10 hb11
              go_wp2_with fail
              refine (refLatched_any C D r n x1 st wear _ hbo11.rpool hn.2).mono ?_
              rintro e w12 ⟨rfl, rfl⟩
              obtain ⟨bl, hbl2⟩ : ∃ bl, decide (x1 < (((st).count 2 : Nat) : Int)) = bl := ⟨_, rfl⟩
              rw [hbl2]
              have s3 : (bl != bl) = false := by simp
              clear hbl2
              go_wp2_with fail
              go_roundw
              case rel => exact ⟨j + 1, _, _, by go_num, by omega, HF2.out, hbo11.back, hbo11.rpool, hbo11.dle, hw11⟩
              case measure => simp [intOf]; omega
            · exact absurd (least_zero h) (HNO.out b' (least_lt h))
          · have HL := hide hl
            have HLF := hide (least_mk hbn hb0 hmin)
            clear hl hb0 hmin
            go_wp2_with fail
            refine (refTake_any C D r n x1 st wear _ hrf hn.2).mono ?_
            rintro e w8 ⟨hk8, ⟨h, -⟩ | ⟨-, h, -⟩ | ⟨-, b2, h, rfl, hq8⟩⟩
            · have := HL.out; omega
            · exact absurd (least_zero HLF.out) (h b' hbn)
            · obtain rfl : b2 = b' := least_unique h HLF.out
              have dbb : ((b2 : Int) == (b2 : Int)) = true := by simp
              clear h
              have hbo8 := hboA.step hk7 hp7 hk8 hq8 hDo hBC
              have hw8 := hwA.trans ((hk7.1.mono hsz).trans (hk8.1.mono (Nat.le_trans hsz hBC)))
              clear hk7 hk8 hp7 hq8 hrf
              go_wp2_with fail
              refine (error_nil 0 _ true rfl).mono ?_
              rintro e w9 ⟨rfl, hb9⟩
              have hw9 := hw8.trans (hb9.mono hw8.size)
              have hbo9 := hbo8.below hb9
              clear hbo8 hw8 hb9
              have HF2 := hide (few_more HFW.out)
              have s0 : (((((st.set b2 1)).count 0 : Nat) : Int) != ((((st.set b2 1)).count 0 : Nat) : Int)) = false := by simp
              have s1 : (((((st.set b2 1)).count 1 : Nat) : Int) != ((((st.set b2 1)).count 1 : Nat) : Int)) = false := by simp
              have s2 : (((((st.set b2 1)).count 2 : Nat) : Int) != ((((st.set b2 1)).count 2 : Nat) : Int)) = false := by simp
              clear hoA o1 hboA hwA
              try clear o17
              try clear o0
              go_wp2_with fail
              refine (count_any B _ g n x1 (st.set b2 1) wear _ hbo9.pool).mono ?_
              rintro e w10 ⟨rfl, hb10⟩
              have hbo10 := hbo9.below hb10
              have hw10 := hw9.trans (hb10.mono hw9.size)
              clear hbo9 hw9 hb10
              go_wp2_with fail
              refine (many_any C D r n x1 0 (st.set b2 1) wear _ hbo10.rpool hn.2).mono ?_
              rintro e w11 ⟨rfl, rfl⟩
              go_wp2_with fail
              refine (many_any C D r n x1 1 (st.set b2 1) wear _ hbo10.rpool hn.2).mono ?_
              rintro e w11 ⟨rfl, rfl⟩
              go_wp2_with fail
              refine (many_any C D r n x1 2 (st.set b2 1) wear _ hbo10.rpool hn.2).mono ?_
              rintro e w11 ⟨rfl, rfl⟩
              go_wp2_with fail
              refine (latched_any B _ g n x1 (st.set b2 1) wear _ hbo10.pool).mono ?_
              rintro e w11 ⟨rfl, hb11⟩
              have hbo11 := hbo10.below hb11
              have hw11 := hw10.trans (hb11.mono hw10.size)
              clear hbo10 hw10 hb11
              go_wp2_with fail
              refine (refLatched_any C D r n x1 (st.set b2 1) wear _ hbo11.rpool hn.2).mono ?_
              rintro e w12 ⟨rfl, rfl⟩
              obtain ⟨bl, hbl2⟩ : ∃ bl, decide (x1 < ((((st.set b2 1)).count 2 : Nat) : Int)) = bl := ⟨_, rfl⟩
              rw [hbl2]
              have s3 : (bl != bl) = false := by simp
              clear hbl2
              go_wp2_with fail
              go_roundw
              case rel => exact ⟨j + 1, _, _, by go_num, by omega, HF2.out, hbo11.back, hbo11.rpool, hbo11.dle, hw11⟩
              case measure => simp [intOf]; omega
        have e1 : (y0 == 1) = false := by simpa using k1
        clear k1
        by_cases k2 : y0 = 2
        · subst k2
          go_wp2_with fail
          refine (give_any B _ g n x1 st wear y1 _ hboA.pool HPO.out (by omega) (by omega)).mono ?_
          rintro e w7 ⟨hk7, ht7⟩
          have hrf := hboA.ref hk7
          have o17 : w7.cell? ⟨wr.heap.size, 1, none⟩ = some (.int .i64 y1) := by { rw [← HO.out]; exact (hk7.bk hoA (.inr rfl)).at_ (i := 1) (u := .int .i64 y1) rfl }
          rcases ht7 with ⟨hc, rfl, hp7⟩ | ⟨c, hc, hc0, rfl, hp7⟩
          · have HC := hide hc
            have hqn : y1.toNat < n := by have := fcode_zero hc; omega
            clear hc
            go_wp2_with fail
            refine (refPut0_any C D r n x1 st wear y1 _ hrf hn.2 (by omega) (by omega)).mono ?_
            rintro e w8 ⟨hk8, ⟨-, rfl, hq8⟩ | ⟨c, hc, hc0, -⟩⟩
            · have hbo8 := hboA.step hk7 hp7 hk8 hq8 hDo hBC
              have hw8 := hwA.trans ((hk7.1.mono hsz).trans (hk8.1.mono (Nat.le_trans hsz hBC)))
              clear hk7 hk8 hp7 hq8 hrf
              go_wp2_with fail
              refine (error_nil 0 _ true rfl).mono ?_
              rintro e w9 ⟨rfl, hb9⟩
              have hw9 := hw8.trans (hb9.mono hw8.size)
              have hbo9 := hbo8.below hb9
              clear hbo8 hw8 hb9
              have HF2 := hide (few_step HFW.out hqn)
              have s0 : (((((st.set y1.toNat 0)).count 0 : Nat) : Int) != ((((st.set y1.toNat 0)).count 0 : Nat) : Int)) = false := by simp
              have s1 : (((((st.set y1.toNat 0)).count 1 : Nat) : Int) != ((((st.set y1.toNat 0)).count 1 : Nat) : Int)) = false := by simp
              have s2 : (((((st.set y1.toNat 0)).count 2 : Nat) : Int) != ((((st.set y1.toNat 0)).count 2 : Nat) : Int)) = false := by simp
              clear hoA o1 hboA hwA
              try clear o17
              try clear o0
              go_wp2_with fail
              refine (count_any B _ g n x1 (st.set y1.toNat 0) (wear.set y1.toNat (wear.getD y1.toNat 0 + 1)) _ hbo9.pool).mono ?_
              rintro e w10 ⟨rfl, hb10⟩
              have hbo10 := hbo9.below hb10
              have hw10 := hw9.trans (hb10.mono hw9.size)
              clear hbo9 hw9 hb10
              go_wp2_with fail
              refine (many_any C D r n x1 0 (st.set y1.toNat 0) (wear.set y1.toNat (wear.getD y1.toNat 0 + 1)) _ hbo10.rpool hn.2).mono ?_
              rintro e w11 ⟨rfl, rfl⟩
              go_wp2_with fail
              refine (many_any C D r n x1 1 (st.set y1.toNat 0) (wear.set y1.toNat (wear.getD y1.toNat 0 + 1)) _ hbo10.rpool hn.2).mono ?_
              rintro e w11 ⟨rfl, rfl⟩
              go_wp2_with fail
              refine (many_any C D r n x1 2 (st.set y1.toNat 0) (wear.set y1.toNat (wear.getD y1.toNat 0 + 1)) _ hbo10.rpool hn.2).mono ?_
              rintro e w11 ⟨rfl, rfl⟩
              go_wp2_with fail
              refine (latched_any B _ g n x1 (st.set y1.toNat 0) (wear.set y1.toNat (wear.getD y1.toNat 0 + 1)) _ hbo10.pool).mono ?_
              rintro e w11 ⟨rfl, hb11⟩
              have hbo11 := hbo10.below hb11
              have hw11 := hw10.trans (hb11.mono hw10.size)
              clear hbo10 hw10 hb11
              go_wp2_with fail
              refine (refLatched_any C D r n x1 (st.set y1.toNat 0) (wear.set y1.toNat (wear.getD y1.toNat 0 + 1)) _ hbo11.rpool hn.2).mono ?_
              rintro e w12 ⟨rfl, rfl⟩
              obtain ⟨bl, hbl2⟩ : ∃ bl, decide (x1 < ((((st.set y1.toNat 0)).count 2 : Nat) : Int)) = bl := ⟨_, rfl⟩
              rw [hbl2]
              have s3 : (bl != bl) = false := by simp
              clear hbl2
              go_wp2_with fail
              go_roundw
              case rel => exact ⟨j + 1, _, _, by go_num, by omega, HF2.out, hbo11.back, hbo11.rpool, hbo11.dle, hw11⟩
              case measure => simp [intOf]; omega
            · exact absurd (hc.symm.trans HC.out) hc0
          · have HC := hide hc
            have HC0 := hide hc0
            unfold errV
            clear hc hc0
            go_wp2_with fail
            refine (refPut0_any C D r n x1 st wear y1 _ hrf hn.2 (by omega) (by omega)).mono ?_
            rintro e w8 ⟨hk8, ⟨h, -⟩ | ⟨c', hc, hc0, rfl, hq8⟩⟩
            · exact absurd (HC.out.symm.trans h) HC0.out
            · obtain rfl : c' = c := hc.symm.trans HC.out
              clear hc hc0
              have hbo8 := hboA.step hk7 hp7 hk8 hq8 hDo hBC
              have hw8 := hwA.trans ((hk7.1.mono hsz).trans (hk8.1.mono (Nat.le_trans hsz hBC)))
              clear hk7 hk8 hp7 hq8 hrf
              go_wp2_with fail
              refine (error_some c' c' _ (HE.out.below hw8 (Nat.le_refl _)) true (by simp)).mono ?_
              rintro e w9 ⟨rfl, hb9⟩
              have hw9 := hw8.trans (hb9.mono hw8.size)
              have hbo9 := hbo8.below hb9
              clear hbo8 hw8 hb9
              have HF2 := hide (few_more HFW.out)
              have s0 : ((((st).count 0 : Nat) : Int) != (((st).count 0 : Nat) : Int)) = false := by simp
              have s1 : ((((st).count 1 : Nat) : Int) != (((st).count 1 : Nat) : Int)) = false := by simp
              have s2 : ((((st).count 2 : Nat) : Int) != (((st).count 2 : Nat) : Int)) = false := by simp
              clear hoA o1 hboA hwA
              try clear o17
              try clear o0
              go_wp2_with fail
              refine (count_any B _ g n x1 st wear _ hbo9.pool).mono ?_
              rintro e w10 ⟨rfl, hb10⟩
              have hbo10 := hbo9.below hb10
              have hw10 := hw9.trans (hb10.mono hw9.size)
              clear hbo9 hw9 hb10
              go_wp2_with fail
              refine (many_any C D r n x1 0 st wear _ hbo10.rpool hn.2).mono ?_
              rintro e w11 ⟨rfl, rfl⟩
              go_wp2_with fail
              refine (many_any C D r n x1 1 st wear _ hbo10.rpool hn.2).mono ?_
              rintro e w11 ⟨rfl, rfl⟩
              go_wp2_with fail
              refine (many_any C D r n x1 2 st wear _ hbo10.rpool hn.2).mono ?_
              rintro e w11 ⟨rfl, rfl⟩
              go_wp2_with fail
              refine (latched_any B _ g n x1 st wear _ hbo10.pool).mono ?_
              rintro e w11 ⟨rfl, hb11⟩
              have hbo11 := hbo10.below hb11
              have hw11 := hw10.trans (hb11.mono hw10.size)
              clear hbo10 hw10 hb11
              go_wp2_with fail
              refine (refLatched_any C D r n x1 st wear _ hbo11.rpool hn.2).mono ?_
              rintro e w12 ⟨rfl, rfl⟩
              obtain ⟨bl, hbl2⟩ : ∃ bl, decide (x1 < (((st).count 2 : Nat) : Int)) = bl := ⟨_, rfl⟩
              rw [hbl2]
              have s3 : (bl != bl) = false := by simp
              clear hbl2
              go_wp2_with fail
              go_roundw
              case rel => exact ⟨j + 1, _, _, by go_num, by omega, HF2.out, hbo11.back, hbo11.rpool, hbo11.dle, hw11⟩
              case measure => simp [intOf]; omega
        have e2 : (y0 == 2) = false := by simpa using k2
        clear k2
        by_cases k3 : y0 = 3
        · subst k3
          go_wp2_with fail
          refine (retire_any B _ g n x1 st wear y1 _ hboA.pool).mono ?_
          rintro e w7 ⟨hk7, ht7⟩
          have hrf := hboA.ref hk7
          have o17 : w7.cell? ⟨wr.heap.size, 1, none⟩ = some (.int .i64 y1) := by { rw [← HO.out]; exact (hk7.bk hoA (.inr rfl)).at_ (i := 1) (u := .int .i64 y1) rfl }
          rcases ht7 with ⟨hc, rfl, hp7⟩ | ⟨c, hc, hc0, rfl, hp7⟩
          · have HC := hide hc
            clear hc
            go_wp2_with fail
            refine (refPut2_any C D r n x1 st wear y1 _ hrf hn.2).mono ?_
            rintro e w8 ⟨hk8, ⟨-, rfl, hq8⟩ | ⟨c, hc, hc0, -⟩⟩
            · have hbo8 := hboA.step hk7 hp7 hk8 hq8 hDo hBC
              have hw8 := hwA.trans ((hk7.1.mono hsz).trans (hk8.1.mono (Nat.le_trans hsz hBC)))
              clear hk7 hk8 hp7 hq8 hrf
              go_wp2_with fail
              refine (error_nil 0 _ true rfl).mono ?_
              rintro e w9 ⟨rfl, hb9⟩
              have hw9 := hw8.trans (hb9.mono hw8.size)
              have hbo9 := hbo8.below hb9
              clear hbo8 hw8 hb9
              have HF2 := hide (few_more HFW.out)
              have s0 : (((((st.set y1.toNat 2)).count 0 : Nat) : Int) != ((((st.set y1.toNat 2)).count 0 : Nat) : Int)) = false := by simp
              have s1 : (((((st.set y1.toNat 2)).count 1 : Nat) : Int) != ((((st.set y1.toNat 2)).count 1 : Nat) : Int)) = false := by simp
              have s2 : (((((st.set y1.toNat 2)).count 2 : Nat) : Int) != ((((st.set y1.toNat 2)).count 2 : Nat) : Int)) = false := by simp
              clear hoA o1 hboA hwA
              try clear o17
              try clear o0
              go_wp2_with fail
              refine (count_any B _ g n x1 (st.set y1.toNat 2) wear _ hbo9.pool).mono ?_
              rintro e w10 ⟨rfl, hb10⟩
              have hbo10 := hbo9.below hb10
              have hw10 := hw9.trans (hb10.mono hw9.size)
              clear hbo9 hw9 hb10
              go_wp2_with fail
              refine (many_any C D r n x1 0 (st.set y1.toNat 2) wear _ hbo10.rpool hn.2).mono ?_
              rintro e w11 ⟨rfl, rfl⟩
              go_wp2_with fail
              refine (many_any C D r n x1 1 (st.set y1.toNat 2) wear _ hbo10.rpool hn.2).mono ?_
              rintro e w11 ⟨rfl, rfl⟩
              go_wp2_with fail
              refine (many_any C D r n x1 2 (st.set y1.toNat 2) wear _ hbo10.rpool hn.2).mono ?_
              rintro e w11 ⟨rfl, rfl⟩
              go_wp2_with fail
              refine (latched_any B _ g n x1 (st.set y1.toNat 2) wear _ hbo10.pool).mono ?_
              rintro e w11 ⟨rfl, hb11⟩
              have hbo11 := hbo10.below hb11
              have hw11 := hw10.trans (hb11.mono hw10.size)
              clear hbo10 hw10 hb11
              go_wp2_with fail
              refine (refLatched_any C D r n x1 (st.set y1.toNat 2) wear _ hbo11.rpool hn.2).mono ?_
              rintro e w12 ⟨rfl, rfl⟩
              obtain ⟨bl, hbl2⟩ : ∃ bl, decide (x1 < ((((st.set y1.toNat 2)).count 2 : Nat) : Int)) = bl := ⟨_, rfl⟩
              rw [hbl2]
              have s3 : (bl != bl) = false := by simp
              clear hbl2
              go_wp2_with fail
              go_roundw
              case rel => exact ⟨j + 1, _, _, by go_num, by omega, HF2.out, hbo11.back, hbo11.rpool, hbo11.dle, hw11⟩
              case measure => simp [intOf]; omega
            · exact absurd (hc.symm.trans HC.out) hc0
          · have HC := hide hc
            have HC0 := hide hc0
            unfold errV
            clear hc hc0
            go_wp2_with fail
            refine (refPut2_any C D r n x1 st wear y1 _ hrf hn.2).mono ?_
            rintro e w8 ⟨hk8, ⟨h, -⟩ | ⟨c', hc, hc0, rfl, hq8⟩⟩
            · exact absurd (HC.out.symm.trans h) HC0.out
            · obtain rfl : c' = c := hc.symm.trans HC.out
              clear hc hc0
              have hbo8 := hboA.step hk7 hp7 hk8 hq8 hDo hBC
              have hw8 := hwA.trans ((hk7.1.mono hsz).trans (hk8.1.mono (Nat.le_trans hsz hBC)))
              clear hk7 hk8 hp7 hq8 hrf
              go_wp2_with fail
              refine (error_some c' c' _ (HE.out.below hw8 (Nat.le_refl _)) true (by simp)).mono ?_
              rintro e w9 ⟨rfl, hb9⟩
              have hw9 := hw8.trans (hb9.mono hw8.size)
              have hbo9 := hbo8.below hb9
              clear hbo8 hw8 hb9
              have HF2 := hide (few_more HFW.out)
              have s0 : ((((st).count 0 : Nat) : Int) != (((st).count 0 : Nat) : Int)) = false := by simp
              have s1 : ((((st).count 1 : Nat) : Int) != (((st).count 1 : Nat) : Int)) = false := by simp
              have s2 : ((((st).count 2 : Nat) : Int) != (((st).count 2 : Nat) : Int)) = false := by simp
              clear hoA o1 hboA hwA
              try clear o17
              try clear o0
              go_wp2_with fail
              refine (count_any B _ g n x1 st wear _ hbo9.pool).mono ?_
              rintro e w10 ⟨rfl, hb10⟩
              have hbo10 := hbo9.below hb10
              have hw10 := hw9.trans (hb10.mono hw9.size)
              clear hbo9 hw9 hb10
              go_wp2_with fail
              refine (many_any C D r n x1 0 st wear _ hbo10.rpool hn.2).mono ?_
              rintro e w11 ⟨rfl, rfl⟩
              go_wp2_with fail
              refine (many_any C D r n x1 1 st wear _ hbo10.rpool hn.2).mono ?_
              rintro e w11 ⟨rfl, rfl⟩
              go_wp2_with fail
              refine (many_any C D r n x1 2 st wear _ hbo10.rpool hn.2).mono ?_
              rintro e w11 ⟨rfl, rfl⟩
              go_wp2_with fail
              refine (latched_any B _ g n x1 st wear _ hbo10.pool).mono ?_
              rintro e w11 ⟨rfl, hb11⟩
              have hbo11 := hbo10.below hb11
              have hw11 := hw10.trans (hb11.mono hw10.size)
              clear hbo10 hw10 hb11
              go_wp2_with fail
              refine (refLatched_any C D r n x1 st wear _ hbo11.rpool hn.2).mono ?_
              rintro e w12 ⟨rfl, rfl⟩
              obtain ⟨bl, hbl2⟩ : ∃ bl, decide (x1 < (((st).count 2 : Nat) : Int)) = bl := ⟨_, rfl⟩
              rw [hbl2]
              have s3 : (bl != bl) = false := by simp
              clear hbl2
              go_wp2_with fail
              go_roundw
              case rel => exact ⟨j + 1, _, _, by go_num, by omega, HF2.out, hbo11.back, hbo11.rpool, hbo11.dle, hw11⟩
              case measure => simp [intOf]; omega
        have e3 : (y0 == 3) = false := by simpa using k3
        clear k3
        by_cases hin : 0 ≤ y1 ∧ y1 < n
        · obtain ⟨q, rfl⟩ := Int.eq_ofNat_of_zero_le hin.1
          obtain ⟨z, hz⟩ : ∃ z, wear.getD q 0 = z := ⟨_, rfl⟩
          have HZ := hide hz
          obtain ⟨rb, c3, c4⟩ := hboA.wear (k := q) (by omega)
          rw [hz] at c4
          have d1 : decide ((q : Int) < 0) = false := decide_eq_false (by omega)
          have d2 : decide ((n : Int) ≤ (q : Int)) = false := decide_eq_false (by omega)
          have d3 : decide (n ≤ q) = false := decide_eq_false (by omega)
          have d4 : (z == z) = true := by simp
          clear hz
          go_wp2_with fail
          refine (worn_ok B _ g n q x1 st wear _ hboA.pool (by omega) z HZ.out).mono ?_
          rintro e w7 ⟨rfl, rfl⟩
          go_wp2_with fail
          go_region
          have hw9 := hwA.drew
          have hbo9 := hboA.below (Below.refl _ _).drew
          have HF2 := hide (few_more HFW.out)
          have s0 : ((((st).count 0 : Nat) : Int) != (((st).count 0 : Nat) : Int)) = false := by simp
          have s1 : ((((st).count 1 : Nat) : Int) != (((st).count 1 : Nat) : Int)) = false := by simp
          have s2 : ((((st).count 2 : Nat) : Int) != (((st).count 2 : Nat) : Int)) = false := by simp
          clear hoA o1 hboA hwA
          try clear o17
          try clear o0
          go_wp2_with fail
          refine (count_any B _ g n x1 st wear _ hbo9.pool).mono ?_
          rintro e w10 ⟨rfl, hb10⟩
          have hbo10 := hbo9.below hb10
          have hw10 := hw9.trans (hb10.mono hw9.size)
          clear hbo9 hw9 hb10
          go_wp2_with fail
          refine (many_any C D r n x1 0 st wear _ hbo10.rpool hn.2).mono ?_
          rintro e w11 ⟨rfl, rfl⟩
          go_wp2_with fail
          refine (many_any C D r n x1 1 st wear _ hbo10.rpool hn.2).mono ?_
          rintro e w11 ⟨rfl, rfl⟩
          go_wp2_with fail
          refine (many_any C D r n x1 2 st wear _ hbo10.rpool hn.2).mono ?_
          rintro e w11 ⟨rfl, rfl⟩
          go_wp2_with fail
          refine (latched_any B _ g n x1 st wear _ hbo10.pool).mono ?_
          rintro e w11 ⟨rfl, hb11⟩
          have hbo11 := hbo10.below hb11
          have hw11 := hw10.trans (hb11.mono hw10.size)
          clear hbo10 hw10 hb11
          go_wp2_with fail
          refine (refLatched_any C D r n x1 st wear _ hbo11.rpool hn.2).mono ?_
          rintro e w12 ⟨rfl, rfl⟩
          obtain ⟨bl, hbl2⟩ : ∃ bl, decide (x1 < (((st).count 2 : Nat) : Int)) = bl := ⟨_, rfl⟩
          rw [hbl2]
          have s3 : (bl != bl) = false := by simp
          clear hbl2
          go_wp2_with fail
          go_roundw
          case rel => exact ⟨j + 1, _, _, by go_num, by omega, HF2.out, hbo11.back, hbo11.rpool, hbo11.dle, hw11⟩
          case measure => simp [intOf]; omega
        · clear o0
          by_cases g1 : y1 < 0
          · clear hin
            go_wp2_with fail
            refine (worn_range B _ g n y1 x1 st wear _ hboA.pool (by omega)).mono ?_
            rintro e w7 ⟨rfl, rfl⟩
            unfold errV
            go_wp2_with fail
            refine (error_some 1 1 _ (HE.out.below hwA (Nat.le_refl _)) true rfl).mono ?_
            rintro e w9 ⟨rfl, hb9⟩
            have hw9 := hwA.trans (hb9.mono hwA.size)
            have hbo9 := hboA.below hb9
            have HF2 := hide (few_more HFW.out)
            have s0 : ((((st).count 0 : Nat) : Int) != (((st).count 0 : Nat) : Int)) = false := by simp
            have s1 : ((((st).count 1 : Nat) : Int) != (((st).count 1 : Nat) : Int)) = false := by simp
            have s2 : ((((st).count 2 : Nat) : Int) != (((st).count 2 : Nat) : Int)) = false := by simp
            clear hoA o1 hboA hwA
            try clear o17
            try clear o0
            go_wp2_with fail
            refine (count_any B _ g n x1 st wear _ hbo9.pool).mono ?_
            rintro e w10 ⟨rfl, hb10⟩
            have hbo10 := hbo9.below hb10
            have hw10 := hw9.trans (hb10.mono hw9.size)
            clear hbo9 hw9 hb10
            go_wp2_with fail
            refine (many_any C D r n x1 0 st wear _ hbo10.rpool hn.2).mono ?_
            rintro e w11 ⟨rfl, rfl⟩
            go_wp2_with fail
            refine (many_any C D r n x1 1 st wear _ hbo10.rpool hn.2).mono ?_
            rintro e w11 ⟨rfl, rfl⟩
            go_wp2_with fail
            refine (many_any C D r n x1 2 st wear _ hbo10.rpool hn.2).mono ?_
            rintro e w11 ⟨rfl, rfl⟩
            go_wp2_with fail
            refine (latched_any B _ g n x1 st wear _ hbo10.pool).mono ?_
            rintro e w11 ⟨rfl, hb11⟩
            have hbo11 := hbo10.below hb11
            have hw11 := hw10.trans (hb11.mono hw10.size)
            clear hbo10 hw10 hb11
            go_wp2_with fail
            refine (refLatched_any C D r n x1 st wear _ hbo11.rpool hn.2).mono ?_
            rintro e w12 ⟨rfl, rfl⟩
            obtain ⟨bl, hbl2⟩ : ∃ bl, decide (x1 < (((st).count 2 : Nat) : Int)) = bl := ⟨_, rfl⟩
            rw [hbl2]
            have s3 : (bl != bl) = false := by simp
            clear hbl2
            go_wp2_with fail
            go_roundw
            case rel => exact ⟨j + 1, _, _, by go_num, by omega, HF2.out, hbo11.back, hbo11.rpool, hbo11.dle, hw11⟩
            case measure => simp [intOf]; omega
          · have g2 : (n : Int) ≤ y1 := by omega
            clear hin
            go_wp2_with fail
            refine (worn_range B _ g n y1 x1 st wear _ hboA.pool (by omega)).mono ?_
            rintro e w7 ⟨rfl, rfl⟩
            unfold errV
            go_wp2_with fail
            refine (error_some 1 1 _ (HE.out.below hwA (Nat.le_refl _)) true rfl).mono ?_
            rintro e w9 ⟨rfl, hb9⟩
            have hw9 := hwA.trans (hb9.mono hwA.size)
            have hbo9 := hboA.below hb9
            have HF2 := hide (few_more HFW.out)
            have s0 : ((((st).count 0 : Nat) : Int) != (((st).count 0 : Nat) : Int)) = false := by simp
            have s1 : ((((st).count 1 : Nat) : Int) != (((st).count 1 : Nat) : Int)) = false := by simp
            have s2 : ((((st).count 2 : Nat) : Int) != (((st).count 2 : Nat) : Int)) = false := by simp
            clear hoA o1 hboA hwA
            try clear o17
            try clear o0
            go_wp2_with fail
            refine (count_any B _ g n x1 st wear _ hbo9.pool).mono ?_
            rintro e w10 ⟨rfl, hb10⟩
            have hbo10 := hbo9.below hb10
            have hw10 := hw9.trans (hb10.mono hw9.size)
            clear hbo9 hw9 hb10
            go_wp2_with fail
            refine (many_any C D r n x1 0 st wear _ hbo10.rpool hn.2).mono ?_
            rintro e w11 ⟨rfl, rfl⟩
            go_wp2_with fail
            refine (many_any C D r n x1 1 st wear _ hbo10.rpool hn.2).mono ?_
            rintro e w11 ⟨rfl, rfl⟩
            go_wp2_with fail
            refine (many_any C D r n x1 2 st wear _ hbo10.rpool hn.2).mono ?_
            rintro e w11 ⟨rfl, rfl⟩
            go_wp2_with fail
            refine (latched_any B _ g n x1 st wear _ hbo10.pool).mono ?_
            rintro e w11 ⟨rfl, hb11⟩
            have hbo11 := hbo10.below hb11
            have hw11 := hw10.trans (hb11.mono hw10.size)
            clear hbo10 hw10 hb11
            go_wp2_with fail
            refine (refLatched_any C D r n x1 st wear _ hbo11.rpool hn.2).mono ?_
            rintro e w12 ⟨rfl, rfl⟩
            obtain ⟨bl, hbl2⟩ : ∃ bl, decide (x1 < (((st).count 2 : Nat) : Int)) = bl := ⟨_, rfl⟩
            rw [hbl2]
            have s3 : (bl != bl) = false := by simp
            clear hbl2
            go_wp2_with fail
            go_roundw
            case rel => exact ⟨j + 1, _, _, by go_num, by omega, HF2.out, hbo11.back, hbo11.rpool, hbo11.dle, hw11⟩
            case measure => simp [intOf]; omega
      · go_wp2_with fail
        go_ret
        exact ⟨rfl, hb⟩
end Go.Proofs.YthaoiilghphbiaaDoor.PoolW
