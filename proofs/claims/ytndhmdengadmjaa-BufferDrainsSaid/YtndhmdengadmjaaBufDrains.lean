/- The walk of granarylaw1.BufferDrains. -/
import Derived.Test.YtndhmdengadmjaaBufPut
import Derived.Test.YtndhmdengadmjaaBufNew
import Derived.Test.YtndhmdengadmjaaDrain
import Derived.Test.YtndhmdengadmjaaPut0
import Derived.Test.YtndhmdengadmjaaOpRows
import Derived.Test.YtndhmdengadmjaaStill
set_option linter.unusedVariables false
namespace Go.Proofs.Ytndhmdengadmjaa.BufL
open Go.RowKit I64 BufP BufW Items

/-- Where the law stands: the buffer, the list of what was put, the list of what was drained. -/
structure St (w0 w : World) (B g : Nat) (most : Int) (Wn Bf Hv : List It) (vw vh : Value) : Prop where
  low : Below w0.heap.size w0 w
  base : B = w0.heap.size
  buf : BufAt w B g most Bf
  want : RowsAt w B B 36 vw Wn
  have_ : RowsAt w B B 36 vh Hv

section
variable {w0 w w' : World} {B g : Nat} {most : Int} {Wn Bf Hv : List It} {vw vh : Value}
theorem St.lt (h : St w0 w B g most Wn Bf Hv vw vh) : B ≤ w.heap.size := h.base ▸ h.low.size
theorem RowsAt.below {base : Nat} {e : TypeId} {v : Value} {its : List It} (h : RowsAt w B base e v its) (hB : B ≤ w.heap.size) (hb : Below w.heap.size w w') : RowsAt w' B base e v its :=
  h.fr (Fr.of_below (T := never) hb hB) (fun _ _ h => h) (fun _ _ h => h)
theorem St.below (h : St w0 w B g most Wn Bf Hv vw vh) (hb : Below w.heap.size w w') : St w0 w' B g most Wn Bf Hv vw vh :=
  ⟨h.low.trans (hb.mono h.low.size), h.base, h.buf.below hb, RowsAt.below h.want h.lt hb, RowsAt.below h.have_ h.lt hb⟩
/-- Behind an item that both took. -/
theorem St.put {w1 w2 : World} {x : It} {v' : Value} (h : St w0 w B g most Wn Bf Hv vw vh) (hb : BufAt w1 B g most (add Bf x)) (hf : Fr B ringT w w1) (hr : RowsAt w2 B w1.heap.size 36 v' (put0 Wn x)) (hl : Below w1.heap.size w1 w2) : St w0 w2 B g most (put0 Wn x) (add Bf x) Hv v' vh := by
  have hB : B ≤ w1.heap.size := Nat.le_trans h.lt hf.size
  have hh := h.have_.fr hf (fun _ _ => by simp only [ringT]; decide) not_u8
  exact ⟨(h.low.trans (h.base ▸ hf.low)).trans (hl.mono (h.base ▸ hB)), h.base, hb.below hl, hr.base_ hB, RowsAt.below hh hB hl⟩
/-- Behind an item that was drained. -/
theorem St.have2 {x : It} {v' : Value} {w2 : World} (h : St w0 w B g most Wn Bf Hv vw vh) (hr : RowsAt w2 B w.heap.size 36 v' (put0 Hv x)) (hl : Below w.heap.size w w2) : St w0 w2 B g most Wn Bf (put0 Hv x) vw v' :=
  ⟨h.low.trans (hl.mono h.low.size), h.base, h.buf.below hl, RowsAt.below h.want h.lt hl, hr.base_ h.lt⟩
/-- What a call on the buffer leaves of the two lists. -/
theorem St.fr {T : Obj → Prop} {Bf' : List It} (h : St w0 w B g most Wn Bf Hv vw vh) (hf : Fr B T w w') (hT : ∀ cs r, ¬ T (.cells cs 36 r)) (hu : ∀ cs r, ¬ T (.cells cs 5 r)) (hb : BufAt w' B g most Bf') : St w0 w' B g most Wn Bf' Hv vw vh :=
  ⟨h.low.trans (h.base ▸ hf.low), h.base, hb, h.want.fr hf hT hu, h.have_.fr hf hT hu⟩
end

theorem sub_len : ∀ (l m : List Int), l.Nodup → (∀ x ∈ l, x ∈ m) → l.length ≤ m.length
  | [], m, _, _ => Nat.zero_le _
  | a :: l, m, h, hs => by
    rw [List.nodup_cons] at h
    have ha := hs a (List.mem_cons_self ..)
    have := sub_len l (m.erase a) h.2 (fun x hx => (List.mem_erase_of_ne (fun e => h.1 (by rw [← e]; exact hx))).2 (hs x (List.mem_cons_of_mem _ hx)))
    rw [List.length_erase_of_mem ha] at this
    have := List.length_pos_of_mem ha
    simp only [List.length_cons]
    omega
theorem told_len {W B H : List It} (h : BufP.Told W B H) : H.length ≤ W.length := by
  obtain ⟨h1, h2, h3, h4⟩ := h
  have := sub_len (lbas H) (lbas W) h3 (fun k hk => by
    apply Classical.byContradiction
    intro hn
    have hw := h4 k
    rw [look_none.2 hn] at hw
    cases hb : lk B k with
    | some x => rw [hb] at hw; cases hw
    | none =>
      rw [hb] at hw
      exact look_none.1 hw.symm hk)
  simpa [lbas] using this
theorem once_ne {T : List It} (h : Once T) {m k : Nat} {x y : It} (hx : T[m]? = some x) (hy : T[k]? = some y) (hmk : m < k) : x.1 ≠ y.1 := by
  intro e
  obtain ⟨hk, hyv⟩ := List.getElem?_eq_some_iff.1 hy
  obtain ⟨hm, hxv⟩ := List.getElem?_eq_some_iff.1 hx
  unfold Once lbas at h
  have := List.pairwise_iff_getElem.1 h m k (by rw [List.length_map]; exact hm) (by rw [List.length_map]; exact hk) hmk
  apply this
  rw [List.getElem_map, List.getElem_map, hxv, hyv, e]
theorem get_ex {T : List It} {n k : Nat} (hn : n = T.length) (hk : k < n) : ∃ x, T[k]? = some x := ⟨T[k]'(by omega), List.getElem?_eq_getElem (by omega)⟩

set_option maxRecDepth 100000 in
set_option maxHeartbeats 8000000 in
theorem drains_law (w : World) (most : Int) (hm1 : -9223372036854775808 ≤ most) (hm2 : most ≤ 9223372036854775807) (A : Option Addr) (n c : Nat) (S : Nat → OpR) (hn : n ≤ c) (h40 : n * 40 ≤ 140737488351232) (hr : RdO w A n S) :
    Calls Try.prog 3 #[.int .i64 most, .slice A n c] w fun e w' => e = .returned (.bool true) ∧ Below w.heap.size w w' := by
  by_cases hbad : most < 1 ∨ 16 < most
  · have HN := hide (new_bad most w hbad)
    have HB := hide hbad
    unfold errV at HN
    by_cases h1 : most < 1
    · have d1 : decide (most < 1) = true := decide_eq_true h1
      clear hbad h1
      go_enter Try.func3, Try.ntmps3
      go_wp2_with (first
        | (go_at_call 7
           refine HN.out.mono ?_
           rintro e w1 ⟨rfl, rfl⟩)
        | fail)
      go_ret
      exact ⟨rfl, Below.refl _ _⟩
    · have d1 : decide (most < 1) = false := decide_eq_false h1
      have d2 : decide (most > 16) = true := decide_eq_true (by omega)
      clear hbad h1
      go_enter Try.func3, Try.ntmps3
      go_wp2_with (first
        | (go_at_call 7
           refine HN.out.mono ?_
           rintro e w1 ⟨rfl, rfl⟩)
        | fail)
      go_ret
      exact ⟨rfl, Below.refl _ _⟩
  have HNEW := hide (new_any most w (by omega) (by omega))
  have HR := hide hr
  have hn9 : n ≤ 3518437208780 := by omega
  have HM := hide (show most ≤ 16 by omega)
  clear hbad hr h40
  go_enter Try.func3, Try.ntmps3
  go_wp2_with (first
    | (go_at_call 7
       refine HNEW.out.mono ?_
       rintro e w1 ⟨g, rfl, hbuf1, hlow1⟩
       have ST := hide (show St w w1 w.heap.size g most [] [] [] (.slice none 0 0) (.slice none 0 0) from ⟨hlow1, rfl, hbuf1, RowsAt.nil _ _ _ _, RowsAt.nil _ _ _ _⟩)
       clear hbuf1 hlow1
       unfold ptr)
    | (go_at_call 8
       refine (map0_any _).mono ?_
       rintro e w2 ⟨rfl, rfl⟩)
    | fail)
  go_loopw [7, 8, 9] (fun vw vh i wr => ∃ (j : Nat) (Wn Bf Hv : List It), j ≤ n ∧ i = .int .i64 j ∧ Hid (St w wr w.heap.size g most Wn Bf Hv vw vh ∧ BufP.Told Wn Bf Hv ∧ Wn.length ≤ j)) (fun _ _ i _ => n - (intOf i).toNat)
  case atStart => exact ⟨0, [], [], [], by omega, rfl, hide ⟨ST.out, told_nil, Nat.le_refl _⟩⟩
  case round =>
    obtain ⟨j, Wn, Bf, Hv, hj, rfl, HS⟩ := hrel
    by_cases hlt : j < n
    · have hd1 : decide ((j : Int) < (n : Int)) = true := by simp; omega
      have hji : (j : Int) < (n : Int) := by omega
      obtain ⟨b, off, rfl, hb, c0, c1, c2, hlc, hcm, hrd, hbx, hby⟩ := HR.out j hlt
      have hbel := HS.out.1.low
      have x0 := (hbel.cell hb).trans c0
      have x1 := (hbel.cell hb).trans c1
      have x2 := (hbel.cell hb).trans c2
      have HRD := hide (hrd.below hbel)
      have HDT : Hid ((S j).l = [] ∨ Dt wr w.heap.size 5 (S j).A) := hide (by
        by_cases he : (S j).l = []
        · exact .inl he
        · right
          intro ad e
          left
          obtain ⟨b', off', e', hb', -⟩ := hrd.form (by rw [u8v_length]; exact List.length_pos_iff.2 he)
          rw [e] at e'
          injection e' with e'
          rw [e']
          exact hb')
      clear c0 c1 c2 hrd hbel HNEW ST
      generalize S j = s at *
      obtain ⟨kx, ky, ld, Ad, cd⟩ := s
      simp only at x0 x1 x2 HRD HDT hlc hcm hbx hby
      have HD : Hid (BufW.Data wr w.heap.size ld Ad cd) := hide ⟨hlc, by omega, HDT.out, HRD.out⟩
      have HBY := hide hby
      clear HRD HDT hlc hbx hby
      have HWB : Hid (Below wr.heap.size wr (wr.alloc (.cells #[.int .i64 kx, .int .i64 ky, .slice Ad ld.length cd] 32))) := hide ((Below.refl _ _).alloc (Nat.le_refl _) _)
      have HKB := hide (Bk.new wr 32 #[.int .i64 kx, .int .i64 ky, .slice Ad ld.length cd])
      have HSB := hide (HS.out.1.below HWB.out)
      have HDB : Hid (BufW.Data (wr.alloc (.cells #[.int .i64 kx, .int .i64 ky, .slice Ad ld.length cd] 32)) w.heap.size ld Ad cd) := hide (HD.out.fr (Fr.of_below (T := never) HWB.out HS.out.1.lt) (fun _ _ h => h))
      have HT := hide HS.out.2.1
      have HWL := hide HS.out.2.2
      have hcl := HS.out.1.buf
      clear HS HD HWB hcl
      have o0 := HKB.out.at_ (i := 0) (u := .int .i64 kx) rfl
      have o1 := HKB.out.at_ (i := 1) (u := .int .i64 ky) rfl
      have o2 := HKB.out.at_ (i := 2) (u := .slice Ad ld.length cd) rfl
      by_cases hk1 : kx = 1
      · have hb1 : (kx == 1) = true := by simp [hk1]
        clear hk1
        go_wp2_with fail
        generalize wr.alloc (.cells #[.int .i64 kx, .int .i64 ky, .slice Ad ld.length cd] 32) = wb at *
        clear x0 x1 x2
        have HPUT := hide (put_any w.heap.size g most Bf ky ld Ad ld.length cd wb HSB.out.buf rfl HDB.out.2.1 HDB.out.2.2.2 HBY.out.1 HBY.out.2)
        unfold ptr at HPUT
        refine HPUT.out.mono ?_
        rintro e w3 ⟨hf3, ⟨hc, rfl, hb3⟩ | ⟨k, hc, hk0, -, -, rfl, hb3⟩⟩
        · have hkb3 := hf3.bk HKB.out (by simp only [ringT]; decide)
          have p1 := hkb3.at_ (i := 1) (u := .int .i64 ky) rfl
          have p2 := hkb3.at_ (i := 2) (u := .slice Ad ld.length cd) rfl
          have HD3 := hide (HDB.out.fr hf3 not_u8)
          have HW3 := hide (HSB.out.want.fr hf3 (fun _ _ => by simp only [ringT]; decide) not_u8)
          have hs3 := hf3.size
          have HF3 := hide hf3
          have HB3 := hide hb3
          have HS3 := hide hs3
          clear hf3 hb3 hc hkb3 hs3 o0 o1 o2
          go_wp2_with (first
            | (go_at_call 10
               refine (put0_any w.heap.size w.heap.size u7 Wn (ky, false, ld) Ad cd w3 HW3.out HD3.out (by have := HWL.out; omega) (Nat.le_trans HSB.out.lt HS3.out)).mono ?_
               rintro e w4 ⟨v4, rfl, hr4, hl4⟩
               have HS4 := hide (HSB.out.put HB3.out HF3.out hr4 hl4)
               clear hr4 hl4)
            | fail)
          go_roundw
          case rel => exact ⟨j + 1, _, _, _, by omega, by go_num, hide ⟨HS4.out, told_put HT.out _, by have := (put0_len Wn (ky, false, ld)).1; have := HWL.out; omega⟩⟩
          case measure => simp [intOf]; omega
        · have HS3 := hide (HSB.out.fr hf3 (fun _ _ => by simp only [ringT]; decide) not_u8 hb3)
          unfold errV
          clear hf3 hb3 hc hk0 o0 o1 o2
          go_wp2_with fail
          go_roundw
          case rel => exact ⟨j + 1, _, _, _, by omega, by go_num, hide ⟨HS3.out, HT.out, by have := HWL.out; omega⟩⟩
          case measure => simp [intOf]; omega
      have hb1 : (kx == 1) = false := by simp [hk1]
      clear hk1
      by_cases hk2 : kx = 2
      · have hb2 : (kx == 2) = true := by simp [hk2]
        clear hk2
        go_wp2_with fail
        generalize wr.alloc (.cells #[.int .i64 kx, .int .i64 ky, .slice Ad ld.length cd] 32) = wb at *
        clear x0 x1 x2
        have HPUT := hide (drop_any w.heap.size g most Bf ky wb HSB.out.buf HBY.out.1 HBY.out.2)
        unfold ptr at HPUT
        refine HPUT.out.mono ?_
        rintro e w3 ⟨hf3, ⟨hc, rfl, hb3⟩ | ⟨k, hc, hk0, -, -, rfl, hb3⟩⟩
        · have hkb3 := hf3.bk HKB.out (by simp only [ringT]; decide)
          have p1 := hkb3.at_ (i := 1) (u := .int .i64 ky) rfl
          have HW3 := hide (HSB.out.want.fr hf3 (fun _ _ => by simp only [ringT]; decide) not_u8)
          have hs3 := hf3.size
          have HF3 := hide hf3
          have HB3 := hide hb3
          have HS3 := hide hs3
          clear hf3 hb3 hc hkb3 hs3 o0 o1 o2
          go_wp2_with (first
            | (go_at_call 10
               refine (put0_any w.heap.size w.heap.size u7 Wn (ky, true, []) none 0 w3 HW3.out ⟨Nat.le_refl _, by simp, .inl rfl, .inl rfl⟩ (by have := HWL.out; omega) (Nat.le_trans HSB.out.lt HS3.out)).mono ?_
               rintro e w4 ⟨v4, rfl, hr4, hl4⟩
               have HS4 := hide (HSB.out.put HB3.out HF3.out hr4 hl4)
               clear hr4 hl4)
            | fail)
          go_roundw
          case rel => exact ⟨j + 1, _, _, _, by omega, by go_num, hide ⟨HS4.out, told_put HT.out _, by have := (put0_len Wn (ky, true, [])).1; have := HWL.out; omega⟩⟩
          case measure => simp [intOf]; omega
        · have HS3 := hide (HSB.out.fr hf3 (fun _ _ => by simp only [ringT]; decide) not_u8 hb3)
          unfold errV
          clear hf3 hb3 hc hk0 o0 o1 o2
          go_wp2_with fail
          go_roundw
          case rel => exact ⟨j + 1, _, _, _, by omega, by go_num, hide ⟨HS3.out, HT.out, by have := HWL.out; omega⟩⟩
          case measure => simp [intOf]; omega
      have hb2 : (kx == 2) = false := by simp [hk2]
      clear hk2
      go_wp2_with fail
      generalize wr.alloc (.cells #[.int .i64 kx, .int .i64 ky, .slice Ad ld.length cd] 32) = wb at *
      clear x0 x1 x2
      have HDR := hide (drain_any w.heap.size g most Bf ky wb HSB.out.buf)
      unfold ptr at HDR
      refine HDR.out.mono ?_
      rintro e w3 ⟨v3, rfl, hr3, hb3, hf3⟩
      have HS3 := hide (HSB.out.fr hf3 (fun _ _ => by simp only [drainT]; decide) not_u8d hb3)
      obtain ⟨q, hq⟩ : ∃ q, q = min ky.toNat Bf.length := ⟨_, rfl⟩
      rw [← hq] at HS3 hr3
      have HTD := hide (told_drain HT.out q)
      obtain ⟨T, hT⟩ : ∃ T, T = Bf.take q := ⟨_, rfl⟩
      obtain ⟨D, hD⟩ : ∃ D, D = Bf.drop q := ⟨_, rfl⟩
      have HTO : Hid (Once T) := hide (by
        rw [hT]
        have h2 := HT.out.2.1
        unfold Once lbas at *
        exact ((List.take_sublist q Bf).map _).nodup h2)
      rw [← hT] at hr3 HTD
      rw [← hD] at HS3 HTD
      have HTL : Hid (T.length ≤ 16) := hide (by
        rw [hT, List.length_take]
        obtain ⟨_, _, _, _, _, _, _, _, _, _, _, h1, h2, _⟩ := HSB.out.buf
        omega)
      obtain ⟨AT, cT, rfl, -, -⟩ := hr3.form
      have HR3 := hide hr3
      obtain ⟨tn, htn⟩ : ∃ tn, tn = T.length := ⟨_, rfl⟩
      have HTN := hide htn
      rw [← htn]
      have ht16 : tn ≤ 16 := by rw [htn]; exact HTL.out
      have HVL : Hid (Hv.length ≤ j) := hide (by have := told_len HT.out; have := HWL.out; omega)
      clear hr3 hb3 hf3 hT hD hq o0 o1 o2 htn
      go_wp2_with fail
      go_loopw [8, 14] (fun vh k wq => ∃ kk : Nat, kk ≤ tn ∧ k = .int .i64 kk ∧ Hid (St w wq w.heap.size g most Wn D (puts Hv (T.take kk)) u7 vh ∧ RowsAt wq w.heap.size w.heap.size 40 (.slice AT T.length cT) T)) (fun _ k _ => tn - (intOf k).toNat)
      case atStart => exact ⟨0, by omega, rfl, hide ⟨HS3.out, HR3.out⟩⟩
      case round =>
        obtain ⟨kk, hkk, rfl, HQ⟩ := hrel
        by_cases hlt2 : kk < tn
        · have hd2 : decide ((kk : Int) < (tn : Int)) = true := by simp; omega
          have hki : (kk : Int) < (tn : Int) := by omega
          obtain ⟨y, hy⟩ := get_ex HTN.out hlt2
          have HY := hide hy
          obtain ⟨gt, ct, Ay, cy, hAT, y0, y1, y2, hyd, -, -⟩ := HQ.out.2.get hy
          obtain ⟨rfl, rfl⟩ : AT = some ⟨gt, 0, none⟩ ∧ cT = ct := by injection hAT with h1 h2 h3; exact ⟨h1, h3⟩
          have HYD := hide hyd
          clear hAT hyd hy
          obtain ⟨z0, z1, zd⟩ := y
          simp only at y0 y1 y2
          go_wp2_with fail
          generalize wr = wl at *
          go_loopw [15] (fun x wq => ∃ m d : Nat, m ≤ kk ∧ x = .int .i64 m ∧ wq = wl.drewN d) (fun x _ => kk - (intOf x).toNat)
          case atStart => exact ⟨0, 0, by omega, rfl, rfl⟩
          case round =>
            obtain ⟨m, d, hm, rfl, rfl⟩ := hrel
            by_cases hlt3 : m < kk
            · have hd3 : decide ((m : Int) < (kk : Int)) = true := by simp; omega
              have hmi : (m : Int) < (tn : Int) := by omega
              obtain ⟨x, hx⟩ := get_ex HTN.out (show m < tn by omega)
              have hne := once_ne HTO.out hx HY.out hlt3
              obtain ⟨gt', ct', Ax, cx, hAT, x0, x1, x2, -, -, -⟩ := HQ.out.2.get hx
              obtain ⟨rfl, rfl⟩ : gt = gt' ∧ cT = ct' := by injection hAT with h1 h2 h3; injection h1 with h1; injection h1 with h1; exact ⟨h1, h3⟩
              obtain ⟨v0, v1, vd⟩ := x
              simp only at x0 x1 x2 hne
              have hb3 : (v0 == z0) = false := by simp [hne]
              clear hAT hx hne
              go_wp2_with fail
              go_quiet (fail)
              go_wp2_with fail
              go_roundw
              case rel => exact ⟨m + 1, _, by omega, by go_num, rfl⟩
              case measure => simp [intOf]; omega
            · have hd3 : decide ((m : Int) < (kk : Int)) = false := by simp; omega
              go_wp2_with fail
              refine still_tail 17 (by kernel_rfl) (by kernel_rfl) ?_
              intro wX hwX
              simp only [List.take_succ_cons, List.take_zero, List.drop_succ_cons, List.drop_zero]
              have e0 : wX.cell? ⟨gt, kk * 3, none⟩ = some (.int .i64 z0) := by rw [hwX]; exact y0
              have e1 : wX.cell? ⟨gt, kk * 3 + 1, none⟩ = some (.bool z1) := by rw [hwX]; exact y1
              have e2 : wX.cell? ⟨gt, kk * 3 + 2, none⟩ = some (.slice Ay zd.length cy) := by rw [hwX]; exact y2
              have HDX : Hid (BufW.Data wX w.heap.size zd Ay cy) := hide (by rw [hwX]; exact HYD.out)
              have bX : Below wl.heap.size wl wX := by rw [hwX]; exact (below_drewN (Below.refl _ _) d).drew
              have HSX := hide (HQ.out.1.below bX)
              have HRX := hide (RowsAt.below HQ.out.2 HQ.out.1.lt bX)
              clear bX HYD y0 y1 y2 HQ hwX
              repeat still_step
              refine wpStill_nil ?_
              go_wp2_with fail
              refine (put0_any w.heap.size w.heap.size u8 (puts Hv (T.take kk)) (z0, z1, zd) Ay cy wX HSX.out.have_ HDX.out (by have h1 := puts_len Hv (T.take kk); have := HVL.out; rw [List.length_take] at h1; have := HTL.out; omega) HSX.out.lt).mono ?_
              rintro e w4 ⟨v4, rfl, hr4, hl4⟩
              have HS4 := hide (HSX.out.have2 hr4 hl4)
              have HR4 := hide (RowsAt.below HRX.out HSX.out.lt hl4)
              clear hr4 hl4
              go_wp2_with fail
              have HTK : Hid (put0 (puts Hv (T.take kk)) (z0, z1, zd) = puts Hv (T.take (kk + 1))) := hide (by rw [List.take_add_one, HY.out, Option.toList_some, puts_snoc])
              rw [HTK.out] at HS4
              go_roundw
              case rel => exact ⟨kk + 1, by omega, by go_num, hide ⟨HS4.out, HR4.out⟩⟩
              case measure => simp [intOf]; omega
        · have hd2 : decide ((kk : Int) < (tn : Int)) = false := by simp; omega
          have HKT : Hid (T.take kk = T) := hide (by
            have := HTN.out
            exact List.take_of_length_le (by omega))
          rw [HKT.out] at HQ
          have HQ1 := hide HQ.out.1
          clear HQ
          go_wp2_with fail
          go_roundw
          case rel => exact ⟨j + 1, _, _, _, by omega, by go_num, hide ⟨HQ1.out, HTD.out, by have := HWL.out; omega⟩⟩
          case measure => simp [intOf]; omega
    · have hd1 : decide ((j : Int) < (n : Int)) = false := by simp; omega
      have HT := hide HS.out.2.1
      have HSS := hide HS.out.1
      have HLEN := hide (len_any w.heap.size g most Bf wr HS.out.1.buf)
      have HDR := hide (drain_any w.heap.size g most Bf (Bf.length : Nat) wr HS.out.1.buf)
      have HWL : Hid (Wn.length ≤ n) := hide (by have := HS.out.2.2; omega)
      have hbm : (Bf.length : Int) ≤ most := by
        obtain ⟨_, _, _, _, _, _, _, _, _, _, _, h1, _⟩ := HS.out.1.buf
        exact h1
      have hmn : min (Int.toNat (Bf.length : Nat)) Bf.length = Bf.length := by omega
      rw [hmn] at HDR
      rw [List.take_length, List.drop_length] at HDR
      have d3 : decide ((Bf.length : Int) > most) = false := decide_eq_false (by omega)
      have HTD := hide (told_drain HT.out Bf.length)
      rw [List.take_length, List.drop_length] at HTD
      have HTL : Hid (Bf.length ≤ 16) := hide (by have := HM.out; omega)
      unfold ptr at HLEN HDR
      clear HS hmn HNEW ST
      obtain ⟨tn, htn⟩ : ∃ tn, tn = Bf.length := ⟨_, rfl⟩
      have HTN := hide htn
      rw [← htn] at HLEN d3 HDR hbm
      have ht16 : tn ≤ 16 := by rw [htn]; exact HTL.out
      have dne : ((tn : Int) != (tn : Int)) = false := by simp
      clear htn
      go_wp2_with (first
        | (go_at_call 13
           refine HLEN.out.mono ?_
           rintro e w5 ⟨rfl, rfl⟩)
        | (go_at_call 12
           refine HDR.out.mono ?_
           rintro e w3 ⟨v3, rfl, hr3, hb3, hf3⟩
           have HS3 := hide (HSS.out.fr hf3 (fun _ _ => by simp only [drainT]; decide) not_u8d hb3)
           obtain ⟨AT, cT, rfl, -, -⟩ := hr3.form
           have HR3 := hide hr3
           rw [← HTN.out] at HR3
           clear hr3 hb3 hf3
           rw [← HTN.out])
        | fail)
      have HVL : Hid (Hv.length ≤ n) := hide (by have := told_len HT.out; have := HWL.out; omega)
      go_loopw [8, 18] (fun vh k wq => ∃ kk : Nat, kk ≤ tn ∧ k = .int .i64 kk ∧ Hid (St w wq w.heap.size g most Wn [] (puts Hv (Bf.take kk)) u7 vh ∧ RowsAt wq w.heap.size w.heap.size 40 (.slice AT tn cT) Bf)) (fun _ k _ => tn - (intOf k).toNat)
      case atStart => exact ⟨0, by omega, rfl, hide ⟨HS3.out, HR3.out⟩⟩
      case round =>
        obtain ⟨kk, hkk, rfl, HQ⟩ := hrel
        by_cases hlt2 : kk < tn
        · have hd2 : decide ((kk : Int) < (tn : Int)) = true := by simp; omega
          have hki : (kk : Int) < (tn : Int) := by omega
          obtain ⟨y, hy⟩ := get_ex HTN.out hlt2
          have HY := hide hy
          have HQR := HQ.out.2
          rw [HTN.out] at HQR
          obtain ⟨gt, ct, Ay, cy, hAT, y0, y1, y2, hyd, -, -⟩ := HQR.get hy
          obtain ⟨rfl, rfl⟩ : AT = some ⟨gt, 0, none⟩ ∧ cT = ct := by injection hAT with h1 h2 h3; exact ⟨h1, h3⟩
          have HYD := hide hyd
          clear hAT hyd hy HQR
          obtain ⟨z0, z1, zd⟩ := y
          simp only at y0 y1 y2
          go_wp2_with fail
          generalize wr = wl at *
          refine still_tail 17 (by kernel_rfl) (by kernel_rfl) ?_
          intro wX hwX
          simp only [List.take_succ_cons, List.take_zero, List.drop_succ_cons, List.drop_zero]
          have e0 : wX.cell? ⟨gt, kk * 3, none⟩ = some (.int .i64 z0) := by rw [hwX]; exact y0
          have e1 : wX.cell? ⟨gt, kk * 3 + 1, none⟩ = some (.bool z1) := by rw [hwX]; exact y1
          have e2 : wX.cell? ⟨gt, kk * 3 + 2, none⟩ = some (.slice Ay zd.length cy) := by rw [hwX]; exact y2
          have HDX : Hid (BufW.Data wX w.heap.size zd Ay cy) := hide (by rw [hwX]; exact HYD.out)
          have bX : Below wl.heap.size wl wX := by rw [hwX]; exact (Below.refl _ _).drew
          have HSX := hide (HQ.out.1.below bX)
          have HRX := hide (RowsAt.below HQ.out.2 HQ.out.1.lt bX)
          clear bX HYD y0 y1 y2 HQ hwX
          repeat still_step
          refine wpStill_nil ?_
          go_wp2_with fail
          refine (put0_any w.heap.size w.heap.size u8 (puts Hv (Bf.take kk)) (z0, z1, zd) Ay cy wX HSX.out.have_ HDX.out (by have h1 := puts_len Hv (Bf.take kk); have := HVL.out; rw [List.length_take] at h1; have := HTL.out; omega) HSX.out.lt).mono ?_
          rintro e w4 ⟨v4, rfl, hr4, hl4⟩
          have HS4 := hide (HSX.out.have2 hr4 hl4)
          have HR4 := hide (RowsAt.below HRX.out HSX.out.lt hl4)
          clear hr4 hl4
          go_wp2_with fail
          have HTK : Hid (put0 (puts Hv (Bf.take kk)) (z0, z1, zd) = puts Hv (Bf.take (kk + 1))) := hide (by rw [List.take_add_one, HY.out, Option.toList_some, puts_snoc])
          rw [HTK.out] at HS4
          go_roundw
          case rel => exact ⟨kk + 1, by omega, by go_num, hide ⟨HS4.out, HR4.out⟩⟩
          case measure => simp [intOf]; omega
        · have hd2 : decide ((kk : Int) < (tn : Int)) = false := by simp; omega
          have HKT : Hid (Bf.take kk = Bf) := hide (by
            have := HTN.out
            exact List.take_of_length_le (by omega))
          rw [HKT.out] at HQ
          have HEND := hide (told_end HTD.out)
          have HSQ := hide HQ.out.1
          obtain ⟨Hw, hHw⟩ : ∃ Hw, Hw = puts Hv Bf := ⟨_, rfl⟩
          rw [← hHw] at HEND HSQ
          clear HQ HTD HR3 HS3 HDR HLEN HSS hHw HKT
          obtain ⟨AW, cW, rfl, -, -⟩ := HSQ.out.want.form
          obtain ⟨AH, cH, rfl, -, -⟩ := HSQ.out.have_.form
          obtain ⟨wn, hwn⟩ : ∃ wn, wn = Wn.length := ⟨_, rfl⟩
          have HWN := hide hwn
          have HHN : Hid (wn = Hw.length) := hide (by rw [hwn]; exact HEND.out.1)
          have hwn9 : wn ≤ 3518437208780 := by rw [hwn]; have := HWL.out; omega
          have dne2 : ((wn : Int) != (wn : Int)) = false := by simp
          rw [← HWN.out, ← HHN.out]
          clear hwn dne
          go_wp2_with fail
          generalize wr = wl at *
          go_loopw [19] (fun i wq => ∃ ii d : Nat, ii ≤ wn ∧ i = .int .i64 ii ∧ wq = wl.drewN d) (fun i _ => wn - (intOf i).toNat)
          case atStart => exact ⟨0, 0, by omega, rfl, rfl⟩
          case round =>
            obtain ⟨ii, d, hii, rfl, rfl⟩ := hrel
            by_cases hlt4 : ii < wn
            · have hd4 : decide ((ii : Int) < (wn : Int)) = true := by simp; omega
              have hi4 : (ii : Int) < (wn : Int) := by omega
              obtain ⟨x, hx⟩ := get_ex HWN.out hlt4
              obtain ⟨gw, cw, Ax, cx, hAW, x0, x1, x2, hxd, -, -⟩ := HSQ.out.want.get hx
              obtain ⟨rfl, rfl⟩ : AW = some ⟨gw, 0, none⟩ ∧ cW = cw := by injection hAW with h1 h2 h3; exact ⟨h1, h3⟩
              have HXD := hide hxd
              have HXM := hide (HEND.out.2 x (List.mem_of_getElem? hx))
              clear hAW hxd hx
              obtain ⟨v0, v1, vd⟩ := x
              simp only at x0 x1 x2
              go_wp2_with fail
              go_loopw [20, 21] (fun f k wq => ∃ (fb : Bool) (kk d : Nat), kk ≤ wn ∧ f = .bool fb ∧ k = .int .i64 kk ∧ wq = wl.drewN d ∧ Hid (∀ q, q < kk → Hw[q]? = some (v0, v1, vd) → fb = true)) (fun _ k _ => wn - (intOf k).toNat)
              case atStart => exact ⟨false, 0, _, by omega, rfl, rfl, rfl, hide (fun q hq => absurd hq (Nat.not_lt_zero q))⟩
              case round =>
                obtain ⟨fb, k6, d6, hk6, rfl, rfl, rfl, HF⟩ := hrel
                by_cases hlt5 : k6 < wn
                · have hd5 : decide ((k6 : Int) < (wn : Int)) = true := by simp; omega
                  have hi5 : (k6 : Int) < (wn : Int) := by omega
                  obtain ⟨y, hy⟩ := get_ex HHN.out hlt5
                  have HY := hide hy
                  obtain ⟨gh, ch, Ay, cy, hAH, y0, y1, y2, hyd, -, -⟩ := HSQ.out.have_.get hy
                  obtain ⟨rfl, rfl⟩ : AH = some ⟨gh, 0, none⟩ ∧ cH = ch := by injection hAH with h1 h2 h3; exact ⟨h1, h3⟩
                  have HYD := hide hyd
                  clear hAH hyd hy
                  obtain ⟨z0, z1, zd⟩ := y
                  simp only at y0 y1 y2
                  obtain ⟨sb, hsb⟩ : ∃ sb, sb = decide (vd = zd) := ⟨_, rfl⟩
                  have HSB := hide hsb
                  clear hsb
                  go_wp2_with fail
                  go_quiet (first
                    | (go_at_call 14
                       exact quiet_at (same_any Ax Ay vd zd vd.length zd.length cx cy _ rfl rfl (by have := HXD.out.2.1; omega) (by exact HXD.out.2.2.2) (by exact HYD.out.2.2.2) sb HSB.out)))
                  cases fb with
                  | true =>
                    go_wp2_with fail
                    go_quiet (fail)
                    go_wp2_with fail
                    go_roundw
                    case rel => exact ⟨true, k6 + 1, _, by omega, rfl, by go_num, rfl, hide (fun _ _ _ => rfl)⟩
                    case measure => simp [intOf]; omega
                  | false =>
                    by_cases hl : v0 = z0
                    · have q1 : (v0 == z0) = true := by simp [hl]
                      by_cases hg : v1 = z1
                      · have q2 : (v1 == z1) = true := by simp [hg]
                        clear hl hg
                        go_wp2_with fail
                        go_quiet (fail)
                        go_wp2_with fail
                        go_roundw
                        case rel => exact ⟨sb, k6 + 1, _, by omega, rfl, by go_num, rfl, hide (fun q hq hx => by
                          rcases Nat.lt_or_ge q k6 with h | h
                          · exact absurd (HF.out q h hx) (by decide)
                          · have : q = k6 := by omega
                            subst this
                            rw [HY.out] at hx
                            injection hx with hx
                            injection hx with h1 hx
                            injection hx with h2 h3
                            rw [HSB.out, h3]
                            exact decide_eq_true rfl)⟩
                        case measure => simp [intOf]; omega
                      · have q2 : (v1 == z1) = false := by simp [hg]
                        have HG := hide hg
                        clear hl hg
                        go_wp2_with fail
                        go_quiet (fail)
                        go_wp2_with fail
                        go_roundw
                        case rel => exact ⟨false, k6 + 1, _, by omega, rfl, by go_num, rfl, hide (fun q hq hx => by
                          rcases Nat.lt_or_ge q k6 with h | h
                          · exact absurd (HF.out q h hx) (by decide)
                          · have : q = k6 := by omega
                            subst this
                            rw [HY.out] at hx
                            injection hx with hx
                            injection hx with h1 hx
                            injection hx with h2 h3
                            exact absurd h2.symm HG.out)⟩
                        case measure => simp [intOf]; omega
                    · have q1 : (v0 == z0) = false := by simp [hl]
                      have HG := hide hl
                      clear hl
                      go_wp2_with fail
                      go_quiet (fail)
                      go_wp2_with fail
                      go_roundw
                      case rel => exact ⟨false, k6 + 1, _, by omega, rfl, by go_num, rfl, hide (fun q hq hx => by
                        rcases Nat.lt_or_ge q k6 with h | h
                        · exact absurd (HF.out q h hx) (by decide)
                        · have : q = k6 := by omega
                          subst this
                          rw [HY.out] at hx
                          injection hx with hx
                          injection hx with h1 hx
                          exact absurd h1.symm HG.out)⟩
                      case measure => simp [intOf]; omega
                · have hd5 : decide ((k6 : Int) < (wn : Int)) = false := by simp; omega
                  have hfb : fb = true := by
                    obtain ⟨q, hq, hqx⟩ := List.getElem_of_mem HXM.out
                    refine HF.out q ?_ (by rw [List.getElem?_eq_getElem hq, hqx])
                    have := HHN.out
                    omega
                  subst hfb
                  go_wp2_with fail
                  go_roundw
                  case rel => exact ⟨ii + 1, _, by omega, by go_num, rfl⟩
                  case measure => simp [intOf]; omega
            · have hd4 : decide ((ii : Int) < (wn : Int)) = false := by simp; omega
              go_wp2_with fail
              go_ret
              exact ⟨rfl, below_drewN HSQ.out.low d⟩
end Go.Proofs.Ytndhmdengadmjaa.BufL
