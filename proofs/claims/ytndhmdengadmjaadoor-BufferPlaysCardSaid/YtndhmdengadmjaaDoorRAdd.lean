/- The walk of granaryref1.Buffer's Add. -/
import Derived.Test.YtndhmdengadmjaaDoorRBuf
set_option linter.unusedVariables false
namespace Go.Proofs.YtndhmdengadmjaaDoor.BufL
open Go.RowKit I64 BufP BufW Items

theorem once_ne {T : List It} (h : Once T) {m k : Nat} {x y : It} (hx : T[m]? = some x) (hy : T[k]? = some y) (hmk : m < k) : x.1 ≠ y.1 := by
  intro e
  obtain ⟨hk, hyv⟩ := List.getElem?_eq_some_iff.1 hy
  obtain ⟨hm, hxv⟩ := List.getElem?_eq_some_iff.1 hx
  unfold Once lbas at h
  have := List.pairwise_iff_getElem.1 h m k (by rw [List.length_map]; exact hm) (by rw [List.length_map]; exact hk) hmk
  apply this
  rw [List.getElem_map, List.getElem_map, hxv, hyv, e]
theorem find_tells {its : List It} {q kf : Int} (hO : Once its) (h : FindIs its q kf) {j : Nat} {y : It} (hy : its[j]? = some y) : ((j : Int) != kf) = decide (y.1 ≠ q) := by
  rcases h with ⟨rfl, hn⟩ | ⟨i, z, rfl, hz, hq, -⟩
  · have h1 : y.1 ≠ q := by
      intro e
      exact look_none.1 hn (List.mem_map.2 ⟨y, List.mem_of_getElem? hy, e⟩)
    rw [decide_eq_true h1]
    simp
    try omega
  · by_cases e : j = i
    · subst e
      rw [hz] at hy
      injection hy with hy
      subst hy
      simp [hq]
    · have h1 : y.1 ≠ q := by
        rw [← hq]
        rcases Nat.lt_or_gt_of_ne e with h | h
        · exact once_ne hO hy hz h
        · exact (once_ne hO hz hy h).symm
      rw [decide_eq_true h1]
      simp; omega
/-- The items of other lbas. -/
def flt (l : List It) (q : Int) : List It := l.filter fun z => decide (z.1 ≠ q)
theorem filter_take (its : List It) (q : Int) {j : Nat} {y : It} (hy : its[j]? = some y) : flt (its.take (j + 1)) q = flt (its.take j) q ++ (if y.1 ≠ q then [y] else []) := by
  unfold flt
  rw [List.take_add_one, hy, Option.toList_some, List.filter_append, List.filter_cons, List.filter_nil]
  by_cases h : y.1 = q <;> simp [h]
theorem flt_len (l : List It) (q : Int) : (flt l q).length ≤ l.length := List.length_filter_le _ _
theorem add_flt (l : List It) (x : It) : add l x = flt l x.1 ++ [x] := rfl

theorem bk_alloc_fr {w : World} {B : Nat} (hB : B ≤ w.heap.size) (o : Obj) : Fr B never w (w.alloc o) := (Fr.refl B never w).alloc hB o

/-- What Add does. -/
def RAddPost (w : World) (B r : Nat) (most : Int) (its : List It) (x : It) (e : Ending) (w' : World) : Prop :=
  e = .returned (.int .i64 (addCode most its x)) ∧ RBuf w' B r most (if addCode most its x = 0 then add its x else its) ∧ Fr B rbufT w w'
theorem RAddPost.no {w w' : World} {B r : Nat} {most k : Int} {its : List It} {x : It} (hc : addCode most its x = k) (hk : k ≠ 0) (h : RBuf w' B r most its) (hf : Fr B rbufT w w') : RAddPost w B r most its x (.returned (.int .i64 k)) w' := by
  refine ⟨by rw [hc], ?_, hf⟩
  rw [hc, if_neg hk]
  exact h
theorem RAddPost.yes {w w' : World} {B r : Nat} {most : Int} {its : List It} {x : It} (hc : addCode most its x = 0) (h : RBuf w' B r most (add its x)) (hf : Fr B rbufT w w') : RAddPost w B r most its x (.returned (.int .i64 0)) w' := by
  refine ⟨by rw [hc], ?_, hf⟩
  rw [hc, if_pos rfl]
  exact h

set_option maxHeartbeats 4000000 in
theorem radd_any (B r : Nat) (most : Int) (its : List It) (x : It) (A : Option Addr) (c : Nat) (w : World) (h : RBuf w B r most its) (hd : BufW.Data w B x.2.2 A c) (hO : Once its) (hl : its.length ≤ 16) (hlm : (its.length : Int) ≤ most) (hB : B ≤ w.heap.size) :
    Calls Tryd.prog 24 #[ptr r, .agg #[.int .i64 x.1, .bool x.2.1, .slice A x.2.2.length c]] w (RAddPost w B r most its x) := by
  obtain ⟨x0, x1, ld⟩ := x
  have f0 := bk_alloc_fr hB (.cells #[.int .i64 x0, .bool x1, .slice A ld.length c] 77)
  have K0 := Bk.new w 77 #[.int .i64 x0, .bool x1, .slice A ld.length c]
  have HR1 := hide (h.fr f0 (fun _ _ h => h) (fun _ _ h => h) (fun _ _ h => h))
  have HD1 := hide (hd.fr f0 (fun _ _ h => h))
  have HF0 : Hid (Fr B rbufT w (w.alloc (.cells #[.int .i64 x0, .bool x1, .slice A ld.length c] 77))) := hide (f0.mono fun _ h => h.elim)
  have HK0 := hide K0
  have HO := hide hO
  have HB := hide hB
  have HL := hide hl
  have HLM := hide hlm
  have b0 := K0.at_ (i := 0) (u := .int .i64 x0) rfl
  have HSZ : Hid ((w.alloc (.cells #[.int .i64 x0, .bool x1, .slice A ld.length c] 77)).heap.size = w.heap.size + 1) := hide (by simp)
  simp only at HD1
  clear h hd hO hl hlm hB f0 K0
  by_cases hneg : x0 < 0
  · have d1 : decide (x0 < 0) = true := decide_eq_true hneg
    have HC : Hid (addCode most its (x0, x1, ld) = 1) := hide (if_pos hneg)
    clear hneg
    unfold ptr
    go_enter Tryd.func24, Tryd.ntmps24
    go_wp2_with fail
    go_ret
    exact RAddPost.no HC.out (by decide) HR1.out HF0.out
  have d1 : decide (x0 < 0) = false := decide_eq_false hneg
  have HNEG := hide (Int.not_lt.1 hneg)
  clear hneg
  have HFI := hide (find_any B r most its x0 _ HR1.out HL.out)
  unfold ptr at HFI
  unfold ptr
  go_enter Tryd.func24, Tryd.ntmps24
  go_wp2_with fail
  refine HFI.out.mono ?_
  rintro e w1 ⟨kf, rfl, hfi, rfl⟩
  have HFF := hide hfi
  obtain ⟨v, hrk, hBr, hrd⟩ := HR1.out
  have r0 := hrk.at_ (i := 0) (u := .int .i64 most) rfl
  have r1 := hrk.at_ (i := 1) (u := v) rfl
  have hrd0 := hrd
  obtain ⟨A2, c2, rfl, hc2, -⟩ := hrd
  have HRK := hide hrk
  have HRD : Hid (RdI (w.alloc (.cells #[.int .i64 x0, .bool x1, .slice A ld.length c] 77)) B (.slice A2 its.length c2) its) := hide hrd0
  have HBR := hide hBr
  obtain ⟨n, hn⟩ : ∃ n, n = its.length := ⟨_, rfl⟩
  have HN := hide hn
  have hn16 : n ≤ 16 := by rw [hn]; exact HL.out
  rw [← hn] at r1
  have hrest : (kf < 0 ∧ (its.length : Int) = most ∧ addCode most its (x0, x1, ld) = 3) ∨ ((¬ kf < 0 ∨ (its.length : Int) ≠ most) ∧ addCode most its (x0, x1, ld) = 0) := by
    have hx : ¬ x0 < 0 := Int.not_lt.2 HNEG.out
    rcases hfi with ⟨rfl, hn⟩ | ⟨i, z, rfl, -, -, hz⟩
    · by_cases hf : (its.length : Int) = most
      · refine .inl ⟨by omega, hf, ?_⟩
        unfold addCode
        rw [if_neg hx, if_pos ⟨by rw [hn]; rfl, hf⟩]
      · refine .inr ⟨.inr hf, ?_⟩
        unfold addCode
        rw [if_neg hx, if_neg (fun h => hf h.2)]
    · refine .inr ⟨.inl (by omega), ?_⟩
      unfold addCode
      rw [if_neg hx, if_neg (fun h => by rw [hz] at h; cases h.1)]
  clear hfi hrk hBr hc2 hn HFI hrd0
  rcases hrest with ⟨hk, hfull, hc⟩ | ⟨hor, hc⟩
  · have d2 : decide (kf < 0) = true := decide_eq_true hk
    have d3 : decide ((n : Int) ≥ most) = true := decide_eq_true (by rw [HN.out]; omega)
    have HC := hide hc
    clear hk hfull hc
    go_wp2_with fail
    go_quiet (fail)
    go_wp2_with fail
    go_ret
    exact RAddPost.no HC.out (by decide) (RBuf.fr (T := never) HR1.out ⟨below_drewN (Below.refl _ _) nq, fun _ _ h _ => h⟩ (fun _ _ h => h) (fun _ _ h => h) (fun _ _ h => h)) ⟨below_drewN HF0.out.low nq, HF0.out.keep⟩
  · have HC := hide hc
    have hor2 : (kf < 0 ∧ (its.length : Int) ≠ most) ∨ ¬ kf < 0 := by
      rcases hor with h | h
      · exact .inr h
      · by_cases hk : kf < 0
        · exact .inl ⟨hk, h⟩
        · exact .inr hk
    clear hc hor
    rcases hor2 with ⟨hk, hne⟩ | hk
    · have d2 : decide (kf < 0) = true := decide_eq_true hk
      have d3 : decide ((n : Int) ≥ most) = false := decide_eq_false (by rw [HN.out]; have := HLM.out; omega)
      clear hk hne
      go_wp2_with fail
      go_quiet (fail)
      go_wp2_with fail
      have K2 : Hid (Bk ((w.alloc (.cells #[.int .i64 x0, .bool x1, .slice A ld.length c] 77)).drewN nq) w.heap.size 77 #[.int .i64 x0, .bool x1, .slice A ld.length c]) := hide HK0.out
      have R2 : Hid (Bk ((w.alloc (.cells #[.int .i64 x0, .bool x1, .slice A ld.length c] 77)).drewN nq) r 41 #[.int .i64 most, .slice A2 its.length c2]) := hide HRK.out
      have I2 : Hid (RdI ((w.alloc (.cells #[.int .i64 x0, .bool x1, .slice A ld.length c] 77)).drewN nq) B (.slice A2 its.length c2) its) := hide (HRD.out.fr (T := never) ⟨below_drewN (Below.refl _ _) nq, fun _ _ h _ => h⟩ (fun _ _ h => h) (fun _ _ h => h))
      have D2 : Hid (BufW.Data ((w.alloc (.cells #[.int .i64 x0, .bool x1, .slice A ld.length c] 77)).drewN nq) B ld A c) := hide HD1.out
      have F2 : Hid (Fr B rbufT w ((w.alloc (.cells #[.int .i64 x0, .bool x1, .slice A ld.length c] 77)).drewN nq)) := hide ⟨below_drewN HF0.out.low nq, HF0.out.keep⟩
      have S2 : Hid (((w.alloc (.cells #[.int .i64 x0, .bool x1, .slice A ld.length c] 77)).drewN nq).heap.size = w.heap.size + 1) := hide HSZ.out
      clear r0 r1 b0 HK0 HRK HR1 HD1 HF0 HSZ d2 HRD
      generalize (w.alloc (.cells #[.int .i64 x0, .bool x1, .slice A ld.length c] 77)).drewN nq = W at *
      go_loopw [6, 7] (fun v i wr => ∃ j : Nat, j ≤ n ∧ i = .int .i64 j ∧ Hid (RowsAt wr B (w.heap.size + 1) 77 v (flt (its.take j) x0) ∧ Below (w.heap.size + 1) W wr)) (fun _ i _ => n - (intOf i).toNat)
      case atStart => exact ⟨0, by omega, rfl, hide ⟨RowsAt.nil _ _ _ _, Below.refl _ _⟩⟩
      case round =>
        obtain ⟨j, hj, rfl, HS⟩ := hrel
        have FW : Hid (Fr (w.heap.size + 1) never W wr) := hide ⟨HS.out.2, fun b o ho _ => (HS.out.2.block b (by rw [← S2.out]; exact (Array.getElem?_eq_some_iff.1 ho).1)).trans ho⟩
        have RW := FW.out.bk R2.out (fun h => h)
        have r1 := RW.at_ (i := 1) (u := .slice A2 n c2) (by rw [HN.out]; rfl)
        have KW := FW.out.bk K2.out (fun h => h)
        have HFB : Hid (Fr B never W wr) := hide (FW.out.base (by have := HB.out; omega))
        by_cases hlt : j < n
        · have hd1 : decide ((j : Int) < (n : Int)) = true := by simp; omega
          have hji : (j : Int) < (n : Int) := by omega
          obtain ⟨y, hy⟩ : ∃ y, its[j]? = some y := ⟨its[j]'(by rw [← HN.out]; exact hlt), List.getElem?_eq_getElem (by rw [← HN.out]; exact hlt)⟩
          have IW := I2.out.fr HFB.out (fun _ _ h => h) (fun _ _ h => h)
          obtain ⟨A3, c3, hA3, -, hI3⟩ := IW
          injection hA3 with hA3 _ _
          subst hA3
          obtain ⟨b, off, Ay, cy, rfl, -, -, y0, y1, y2, hyd⟩ := hI3 j y hy
          have hft := find_tells HO.out HFF.out hy
          have HFT := hide (filter_take its x0 hy)
          have HYD := hide hyd
          clear hyd hI3 hy RW KW
          obtain ⟨z0, z1, zd⟩ := y
          simp only at y0 y1 y2
          by_cases heq : z0 = x0
          · have hb : ((j : Int) != kf) = false := by rw [hft]; simp [heq]
            have HEQ := hide heq
            clear heq hft
            go_wp2_with fail
            go_roundw
            case rel => exact ⟨j + 1, by omega, by go_num, hide ⟨by rw [HFT.out, if_neg (by simp [HEQ.out]), List.append_nil]; exact HS.out.1, HS.out.2⟩⟩
            case measure => simp [intOf]; omega
          · have hb : ((j : Int) != kf) = true := by rw [hft]; simp [heq]
            have HEQ := hide heq
            clear heq hft
            have HBW : Hid (B ≤ wr.heap.size ∧ w.heap.size + 1 ≤ wr.heap.size) := hide (by have := HS.out.2.size; have := S2.out; have := HB.out; omega)
            have f3 := bk_alloc_fr HBW.out.1 (.cells #[.int .i64 z0, .bool z1, .slice Ay zd.length cy] 77)
            have HV3 := hide (HS.out.1.fr f3 (fun _ _ h => h) (fun _ _ h => h))
            have HD3 := hide (HYD.out.fr f3 (fun _ _ h => h))
            have HK3 := hide (Bk.new wr 77 #[.int .i64 z0, .bool z1, .slice Ay zd.length cy])
            have HB3 : Hid (Below (w.heap.size + 1) W (wr.alloc (.cells #[.int .i64 z0, .bool z1, .slice Ay zd.length cy] 77))) := hide (HS.out.2.trans ((Below.refl _ _).alloc HBW.out.2 _))
            have HLF : Hid ((flt (its.take j) x0).length + 1 ≤ 3518437208883) := hide (by
              have h1 := flt_len (its.take j) x0
              rw [List.length_take] at h1
              have := HL.out
              omega)
            clear f3
            go_wp2_with (first
              | (refine wpList_item (B := B) (base := w.heap.size + 1) rfl (.tmp 41) (.tmp 49) rfl Tryd.underlying39 ritem_info' (by decide) rfl HV3.out (z0, z1, zd) Ay cy HD3.out wr.heap.size 1 rfl HK3.out HLF.out (by have := HB.out; omega) (by have := HBW.out.2; simp; omega) ?_
                 intro g5 cap5 w5 hr5 hf5)
              | fail)
            have HR5 : Hid (RowsAt w5 B (w.heap.size + 1) 77 (.slice (some ⟨g5, 0, none⟩) ((flt (its.take j) x0).length + 1) cap5) (flt (its.take (j + 1)) x0)) := hide (by rw [HFT.out, if_pos HEQ.out]; exact hr5)
            have HF5 := hide (HB3.out.trans hf5.low)
            clear hr5 hf5
            go_roundw
            case rel => exact ⟨j + 1, by omega, by go_num, hide ⟨HR5.out, HF5.out⟩⟩
            case measure => simp [intOf]; omega
        · have hd1 : decide ((j : Int) < (n : Int)) = false := by simp; omega
          have HTK : Hid (its.take j = its) := hide (List.take_of_length_le (by have := HN.out; omega))
          rw [HTK.out] at HS
          have b0 := KW.at_ (i := 0) (u := .int .i64 x0) rfl
          have b1 := KW.at_ (i := 1) (u := .bool x1) rfl
          have b2 := KW.at_ (i := 2) (u := .slice A ld.length c) rfl
          have HBW : Hid (B ≤ wr.heap.size ∧ w.heap.size + 1 ≤ wr.heap.size) := hide (by have := HS.out.2.size; have := S2.out; have := HB.out; omega)
          have f3 := bk_alloc_fr HBW.out.1 (.cells #[.int .i64 x0, .bool x1, .slice A ld.length c] 77)
          have HV3 := hide (HS.out.1.fr f3 (fun _ _ h => h) (fun _ _ h => h))
          have HD3 := hide ((D2.out.fr HFB.out (fun _ _ h => h)).fr f3 (fun _ _ h => h))
          have HK3 := hide (Bk.new wr 77 #[.int .i64 x0, .bool x1, .slice A ld.length c])
          have HB3 : Hid (Below (w.heap.size + 1) W (wr.alloc (.cells #[.int .i64 x0, .bool x1, .slice A ld.length c] 77))) := hide (HS.out.2.trans ((Below.refl _ _).alloc HBW.out.2 _))
          have HLF : Hid ((flt its x0).length + 1 ≤ 3518437208883) := hide (by
            have h1 := flt_len its x0
            have := HL.out
            omega)
          have HRK2 := hide (f3.bk RW (fun h => h))
          clear f3 RW KW
          go_wp2_with (first
            | (refine wpList_item (B := B) (base := w.heap.size + 1) rfl (.tmp 52) (.tmp 54) rfl Tryd.underlying39 ritem_info' (by decide) rfl HV3.out (x0, x1, ld) A c HD3.out wr.heap.size 1 rfl HK3.out HLF.out (by have := HB.out; omega) (by have := HBW.out.2; simp; omega) ?_
               intro g5 cap5 w5 hr5 hf5
               have hrk5 := hf5.bk HRK2.out (by simp only [rowT]; decide)
               have q1 := hrk5.at_ (i := 1) (u := .slice A2 n c2) (by rw [HN.out]; rfl)
               have q2 := hrk5.free 1
               have HRK5 := hide hrk5
               have HR5 := hide hr5
               have HF5 := hide (HB3.out.trans hf5.low)
               clear hrk5 hr5 hf5)
            | fail)
          go_ret
          have fs := Fr.set (T := rbufT) (p := ⟨r, 1, none⟩) HRK5.out HBR.out rfl (.slice (some ⟨g5, 0, none⟩) ((flt its x0).length + 1) cap5)
          have hfin := (RdI.of_rows HR5.out (by have := HB.out; omega)).fr fs (fun _ _ => by simp only [rbufT]; decide) (fun _ _ => by simp only [rbufT]; decide)
          refine RAddPost.yes HC.out ⟨_, HRK5.out.put 1 _, HBR.out, hfin⟩ (F2.out.trans (Fr.trans ?_ fs))
          exact (show Fr B rbufT W w5 from ⟨HF5.out.mono (by have := HB.out; omega), fun b o ho _ => (HF5.out.block b (by rw [← S2.out]; exact (Array.getElem?_eq_some_iff.1 ho).1)).trans ho⟩)
    · have d2 : decide (kf < 0) = false := decide_eq_false hk
      clear hk
      go_wp2_with fail
      go_quiet (fail)
      go_wp2_with fail
      have K2 : Hid (Bk ((w.alloc (.cells #[.int .i64 x0, .bool x1, .slice A ld.length c] 77)).drewN nq) w.heap.size 77 #[.int .i64 x0, .bool x1, .slice A ld.length c]) := hide HK0.out
      have R2 : Hid (Bk ((w.alloc (.cells #[.int .i64 x0, .bool x1, .slice A ld.length c] 77)).drewN nq) r 41 #[.int .i64 most, .slice A2 its.length c2]) := hide HRK.out
      have I2 : Hid (RdI ((w.alloc (.cells #[.int .i64 x0, .bool x1, .slice A ld.length c] 77)).drewN nq) B (.slice A2 its.length c2) its) := hide (HRD.out.fr (T := never) ⟨below_drewN (Below.refl _ _) nq, fun _ _ h _ => h⟩ (fun _ _ h => h) (fun _ _ h => h))
      have D2 : Hid (BufW.Data ((w.alloc (.cells #[.int .i64 x0, .bool x1, .slice A ld.length c] 77)).drewN nq) B ld A c) := hide HD1.out
      have F2 : Hid (Fr B rbufT w ((w.alloc (.cells #[.int .i64 x0, .bool x1, .slice A ld.length c] 77)).drewN nq)) := hide ⟨below_drewN HF0.out.low nq, HF0.out.keep⟩
      have S2 : Hid (((w.alloc (.cells #[.int .i64 x0, .bool x1, .slice A ld.length c] 77)).drewN nq).heap.size = w.heap.size + 1) := hide HSZ.out
      clear r0 r1 b0 HK0 HRK HR1 HD1 HF0 HSZ d2 HRD
      generalize (w.alloc (.cells #[.int .i64 x0, .bool x1, .slice A ld.length c] 77)).drewN nq = W at *
      go_loopw [6, 7] (fun v i wr => ∃ j : Nat, j ≤ n ∧ i = .int .i64 j ∧ Hid (RowsAt wr B (w.heap.size + 1) 77 v (flt (its.take j) x0) ∧ Below (w.heap.size + 1) W wr)) (fun _ i _ => n - (intOf i).toNat)
      case atStart => exact ⟨0, by omega, rfl, hide ⟨RowsAt.nil _ _ _ _, Below.refl _ _⟩⟩
      case round =>
        obtain ⟨j, hj, rfl, HS⟩ := hrel
        have FW : Hid (Fr (w.heap.size + 1) never W wr) := hide ⟨HS.out.2, fun b o ho _ => (HS.out.2.block b (by rw [← S2.out]; exact (Array.getElem?_eq_some_iff.1 ho).1)).trans ho⟩
        have RW := FW.out.bk R2.out (fun h => h)
        have r1 := RW.at_ (i := 1) (u := .slice A2 n c2) (by rw [HN.out]; rfl)
        have KW := FW.out.bk K2.out (fun h => h)
        have HFB : Hid (Fr B never W wr) := hide (FW.out.base (by have := HB.out; omega))
        by_cases hlt : j < n
        · have hd1 : decide ((j : Int) < (n : Int)) = true := by simp; omega
          have hji : (j : Int) < (n : Int) := by omega
          obtain ⟨y, hy⟩ : ∃ y, its[j]? = some y := ⟨its[j]'(by rw [← HN.out]; exact hlt), List.getElem?_eq_getElem (by rw [← HN.out]; exact hlt)⟩
          have IW := I2.out.fr HFB.out (fun _ _ h => h) (fun _ _ h => h)
          obtain ⟨A3, c3, hA3, -, hI3⟩ := IW
          injection hA3 with hA3 _ _
          subst hA3
          obtain ⟨b, off, Ay, cy, rfl, -, -, y0, y1, y2, hyd⟩ := hI3 j y hy
          have hft := find_tells HO.out HFF.out hy
          have HFT := hide (filter_take its x0 hy)
          have HYD := hide hyd
          clear hyd hI3 hy RW KW
          obtain ⟨z0, z1, zd⟩ := y
          simp only at y0 y1 y2
          by_cases heq : z0 = x0
          · have hb : ((j : Int) != kf) = false := by rw [hft]; simp [heq]
            have HEQ := hide heq
            clear heq hft
            go_wp2_with fail
            go_roundw
            case rel => exact ⟨j + 1, by omega, by go_num, hide ⟨by rw [HFT.out, if_neg (by simp [HEQ.out]), List.append_nil]; exact HS.out.1, HS.out.2⟩⟩
            case measure => simp [intOf]; omega
          · have hb : ((j : Int) != kf) = true := by rw [hft]; simp [heq]
            have HEQ := hide heq
            clear heq hft
            have HBW : Hid (B ≤ wr.heap.size ∧ w.heap.size + 1 ≤ wr.heap.size) := hide (by have := HS.out.2.size; have := S2.out; have := HB.out; omega)
            have f3 := bk_alloc_fr HBW.out.1 (.cells #[.int .i64 z0, .bool z1, .slice Ay zd.length cy] 77)
            have HV3 := hide (HS.out.1.fr f3 (fun _ _ h => h) (fun _ _ h => h))
            have HD3 := hide (HYD.out.fr f3 (fun _ _ h => h))
            have HK3 := hide (Bk.new wr 77 #[.int .i64 z0, .bool z1, .slice Ay zd.length cy])
            have HB3 : Hid (Below (w.heap.size + 1) W (wr.alloc (.cells #[.int .i64 z0, .bool z1, .slice Ay zd.length cy] 77))) := hide (HS.out.2.trans ((Below.refl _ _).alloc HBW.out.2 _))
            have HLF : Hid ((flt (its.take j) x0).length + 1 ≤ 3518437208883) := hide (by
              have h1 := flt_len (its.take j) x0
              rw [List.length_take] at h1
              have := HL.out
              omega)
            clear f3
            go_wp2_with (first
              | (refine wpList_item (B := B) (base := w.heap.size + 1) rfl (.tmp 41) (.tmp 49) rfl Tryd.underlying39 ritem_info' (by decide) rfl HV3.out (z0, z1, zd) Ay cy HD3.out wr.heap.size 1 rfl HK3.out HLF.out (by have := HB.out; omega) (by have := HBW.out.2; simp; omega) ?_
                 intro g5 cap5 w5 hr5 hf5)
              | fail)
            have HR5 : Hid (RowsAt w5 B (w.heap.size + 1) 77 (.slice (some ⟨g5, 0, none⟩) ((flt (its.take j) x0).length + 1) cap5) (flt (its.take (j + 1)) x0)) := hide (by rw [HFT.out, if_pos HEQ.out]; exact hr5)
            have HF5 := hide (HB3.out.trans hf5.low)
            clear hr5 hf5
            go_roundw
            case rel => exact ⟨j + 1, by omega, by go_num, hide ⟨HR5.out, HF5.out⟩⟩
            case measure => simp [intOf]; omega
        · have hd1 : decide ((j : Int) < (n : Int)) = false := by simp; omega
          have HTK : Hid (its.take j = its) := hide (List.take_of_length_le (by have := HN.out; omega))
          rw [HTK.out] at HS
          have b0 := KW.at_ (i := 0) (u := .int .i64 x0) rfl
          have b1 := KW.at_ (i := 1) (u := .bool x1) rfl
          have b2 := KW.at_ (i := 2) (u := .slice A ld.length c) rfl
          have HBW : Hid (B ≤ wr.heap.size ∧ w.heap.size + 1 ≤ wr.heap.size) := hide (by have := HS.out.2.size; have := S2.out; have := HB.out; omega)
          have f3 := bk_alloc_fr HBW.out.1 (.cells #[.int .i64 x0, .bool x1, .slice A ld.length c] 77)
          have HV3 := hide (HS.out.1.fr f3 (fun _ _ h => h) (fun _ _ h => h))
          have HD3 := hide ((D2.out.fr HFB.out (fun _ _ h => h)).fr f3 (fun _ _ h => h))
          have HK3 := hide (Bk.new wr 77 #[.int .i64 x0, .bool x1, .slice A ld.length c])
          have HB3 : Hid (Below (w.heap.size + 1) W (wr.alloc (.cells #[.int .i64 x0, .bool x1, .slice A ld.length c] 77))) := hide (HS.out.2.trans ((Below.refl _ _).alloc HBW.out.2 _))
          have HLF : Hid ((flt its x0).length + 1 ≤ 3518437208883) := hide (by
            have h1 := flt_len its x0
            have := HL.out
            omega)
          have HRK2 := hide (f3.bk RW (fun h => h))
          clear f3 RW KW
          go_wp2_with (first
            | (refine wpList_item (B := B) (base := w.heap.size + 1) rfl (.tmp 52) (.tmp 54) rfl Tryd.underlying39 ritem_info' (by decide) rfl HV3.out (x0, x1, ld) A c HD3.out wr.heap.size 1 rfl HK3.out HLF.out (by have := HB.out; omega) (by have := HBW.out.2; simp; omega) ?_
               intro g5 cap5 w5 hr5 hf5
               have hrk5 := hf5.bk HRK2.out (by simp only [rowT]; decide)
               have q1 := hrk5.at_ (i := 1) (u := .slice A2 n c2) (by rw [HN.out]; rfl)
               have q2 := hrk5.free 1
               have HRK5 := hide hrk5
               have HR5 := hide hr5
               have HF5 := hide (HB3.out.trans hf5.low)
               clear hrk5 hr5 hf5)
            | fail)
          go_ret
          have fs := Fr.set (T := rbufT) (p := ⟨r, 1, none⟩) HRK5.out HBR.out rfl (.slice (some ⟨g5, 0, none⟩) ((flt its x0).length + 1) cap5)
          have hfin := (RdI.of_rows HR5.out (by have := HB.out; omega)).fr fs (fun _ _ => by simp only [rbufT]; decide) (fun _ _ => by simp only [rbufT]; decide)
          refine RAddPost.yes HC.out ⟨_, HRK5.out.put 1 _, HBR.out, hfin⟩ (F2.out.trans (Fr.trans ?_ fs))
          exact (show Fr B rbufT W w5 from ⟨HF5.out.mono (by have := HB.out; omega), fun b o ho _ => (HF5.out.block b (by rw [← S2.out]; exact (Array.getElem?_eq_some_iff.1 ho).1)).trans ho⟩)
end Go.Proofs.YtndhmdengadmjaaDoor.BufL
