/- The walk of granarylaw1.bufferStep. -/
import Derived.Test.YtndhmdengadmjaaDoorBufLast
import Derived.Test.YtndhmdengadmjaaDoorRAdd
set_option linter.unusedVariables false
namespace Go.Proofs.YtndhmdengadmjaaDoor.BufL
open Go.RowKit I64 BufP BufW Items ToldW

/-- Both hold the same. -/
structure Both (w0 w : World) (g r : Nat) (most : Int) (L : List It) : Prop where
  low : Below w0.heap.size w0 w
  buf : BufAt w w0.heap.size g most L
  ref : RBuf w w0.heap.size r most L

section
variable {w0 w w' : World} {g r : Nat} {most : Int} {L L' : List It}
theorem Both.lt (h : Both w0 w g r most L) : w0.heap.size ≤ w.heap.size := h.low.size
theorem RBuf.below {B : Nat} (h : RBuf w B r most L) (hB : B ≤ w.heap.size) (hb : Below w.heap.size w w') : RBuf w' B r most L := h.fr (Fr.of_below (T := never) hb hB) (fun _ _ h => h) (fun _ _ h => h) (fun _ _ h => h)
theorem Both.below (h : Both w0 w g r most L) (hb : Below w.heap.size w w') : Both w0 w' g r most L := ⟨h.low.trans (hb.mono h.lt), h.buf.below hb, RBuf.below h.ref h.lt hb⟩
theorem Both.le (h : Both w0 w g r most L) : (L.length : Int) ≤ most ∧ L.length ≤ 16 ∧ Once L := by
  obtain ⟨_, _, _, _, _, _, _, _, _, _, h0, h1, h2, _⟩ := h.buf
  exact ⟨h1, by omega, h0⟩
theorem ringT_rb {w : World} {B : Nat} (h : RBuf w B r most L) (hf : Fr B ringT w w') : RBuf w' B r most L := h.fr hf (fun _ _ => by simp only [ringT]; decide) not_u8 (fun _ _ => by simp only [ringT]; decide)
theorem rbuf_fr {B : Nat} (h : BufAt w B g most L) (hf : Fr B rbufT w w') : BufAt w' B g most L := h.fr hf fun o ho => by
  cases o <;> simp only [rbufT] at ho
  rename_i cs t q
  exact ⟨cs, t, q, rfl, by subst ho; decide⟩
/-- Behind an item that both were given. -/
theorem Both.add {w1 w2 : World} {x : It} {e1 e2 : Ending} (h : Both w0 w g r most L) (h1 : AddPost w w0.heap.size g most L x e1 w1) (h2 : RAddPost w1 w0.heap.size r most L x e2 w2) :
    ∃ k, e2 = .returned (.int .i64 k) ∧ ((k = 0 ∧ e1 = .returned .nilIface) ∨ e1 = .returned (errV k)) ∧ Both w0 w2 g r most (if k = 0 then BufP.add L x else L) := by
  obtain ⟨he2, hr2, hf2⟩ := h2
  obtain ⟨hf1, ⟨hc, he1, hb1⟩ | ⟨k, hc, hk, -, -, he1, hb1⟩⟩ := h1
  · refine ⟨0, by rw [he2, hc], .inl ⟨rfl, he1⟩, ?_⟩
    rw [if_pos rfl]
    rw [hc, if_pos rfl] at hr2
    exact ⟨(h.low.trans hf1.low).trans hf2.low, rbuf_fr hb1 hf2, hr2⟩
  · refine ⟨k, by rw [he2, hc], .inr he1, ?_⟩
    rw [if_neg hk]
    rw [hc, if_neg hk] at hr2
    exact ⟨(h.low.trans hf1.low).trans hf2.low, rbuf_fr hb1 hf2, hr2⟩
end

theorem RowsAt.below' {w w' : World} {B base : Nat} {e : TypeId} {v : Value} {its : List It} (h : RowsAt w B base e v its) (hB : B ≤ w.heap.size) (hb : Below w.heap.size w w') : RowsAt w' B base e v its :=
  h.fr (Fr.of_below (T := never) hb hB) (fun _ _ h => h) (fun _ _ h => h)
theorem add0 (A : Option Addr) : A.map (·.add (0 * 3)) = A := by
  cases A with
  | none => rfl
  | some a => simp [Addr.add]
/-- What a step does. -/
def StepPost (w0 : World) (g r : Nat) (most : Int) (e : Ending) (w' : World) : Prop := e = .returned (.bool true) ∧ ∃ L', Both w0 w' g r most L'

set_option maxRecDepth 100000 in
set_option maxHeartbeats 8000000 in
theorem step_any (w0 : World) (g r : Nat) (most : Int) (L : List It) (kx ky : Int) (ls : List UInt8) (As : Option Addr) (cs : Nat) (w : World) (hE : ErrT w0) (h : Both w0 w g r most L) (hd : BufW.Data w w0.heap.size ls As cs)
    (hy1 : -9223372036854775808 ≤ ky) (hy2 : ky ≤ 9223372036854775807) :
    Calls Tryd.prog 12 #[ptr g, ptr r, .agg #[.int .i64 kx, .int .i64 ky, .slice As ls.length cs]] w (StepPost w0 g r most) := by
  have f0 : Fr w0.heap.size never w (w.alloc (.cells #[.int .i64 kx, .int .i64 ky, .slice As ls.length cs] 44)) := bk_alloc_fr h.lt _
  have HERR := hide hE
  have HKB := hide (Bk.new w 44 #[.int .i64 kx, .int .i64 ky, .slice As ls.length cs])
  have HSB : Hid (Both w0 (w.alloc (.cells #[.int .i64 kx, .int .i64 ky, .slice As ls.length cs] 44)) g r most L) := hide (h.below ((Below.refl _ _).alloc (Nat.le_refl _) _))
  have HDB := hide (hd.fr f0 (fun _ _ h => h))
  have HBY := hide (And.intro hy1 hy2)
  have o0 := HKB.out.at_ (i := 0) (u := .int .i64 kx) rfl
  have o1 := HKB.out.at_ (i := 1) (u := .int .i64 ky) rfl
  have o2 := HKB.out.at_ (i := 2) (u := .slice As ls.length cs) rfl
  clear f0 hE h hd hy1 hy2
  by_cases hk1 : kx = 1
  · have hb1 : (kx == 1) = true := by simp [hk1]
    clear hk1
    unfold ptr
    go_enter Tryd.func12, Tryd.ntmps12
    go_wp2_with fail
    generalize w.alloc (.cells #[.int .i64 kx, .int .i64 ky, .slice As ls.length cs] 44) = wb at *
    have HPUT := hide (put_any w0.heap.size g most L ky ls As ls.length cs wb HSB.out.buf rfl HDB.out.2.1 HDB.out.2.2.2 HBY.out.1 HBY.out.2)
    unfold ptr at HPUT
    refine HPUT.out.mono ?_
    intro e w3 hp
    obtain ⟨v3, rfl⟩ := hp.ret
    have hkb3 := hp.1.bk HKB.out (by simp only [ringT]; decide)
    have p1 := hkb3.at_ (i := 1) (u := .int .i64 ky) rfl
    have p2 := hkb3.at_ (i := 2) (u := .slice As ls.length cs) rfl
    have HADD := hide (radd_any w0.heap.size r most L (ky, false, ls) As cs w3 (ringT_rb HSB.out.ref hp.1) (HDB.out.fr hp.1 not_u8) HSB.out.le.2.2 HSB.out.le.2.1 HSB.out.le.1 (Nat.le_trans HSB.out.lt hp.1.size))
    have HP := hide hp
    unfold ptr at HADD
    clear hp hkb3 o0 o1 o2
    go_wp2_with fail
    refine HADD.out.mono ?_
    intro e w4 hq
    obtain ⟨k, rfl, hor, hboth⟩ := HSB.out.add HP.out hq
    have HB4 := hide hboth
    clear hq hboth
    rcases hor with ⟨rfl, he⟩ | he
    · injection he with he
      subst he
      go_wp2_with fail
      refine (error_nil 0 _ true (by decide)).mono ?_
      rintro e w9 ⟨rfl, hb9⟩
      go_wp2_with fail
      go_ret
      exact ⟨rfl, _, HB4.out.below hb9⟩
    · injection he with he
      subst he
      unfold errV
      go_wp2_with fail
      refine (error_some k k _ (HERR.out.below HB4.out.low (Nat.le_refl _)) true (by simp)).mono ?_
      rintro e w9 ⟨rfl, hb9⟩
      go_wp2_with fail
      go_ret
      exact ⟨rfl, _, HB4.out.below hb9⟩
  have hb1 : (kx == 1) = false := by simp [hk1]
  clear hk1
  by_cases hk2 : kx = 2
  · have hb2 : (kx == 2) = true := by simp [hk2]
    clear hk2
    unfold ptr
    go_enter Tryd.func12, Tryd.ntmps12
    go_wp2_with fail
    generalize w.alloc (.cells #[.int .i64 kx, .int .i64 ky, .slice As ls.length cs] 44) = wb at *
    have HPUT := hide (drop_any w0.heap.size g most L ky wb HSB.out.buf HBY.out.1 HBY.out.2)
    unfold ptr at HPUT
    refine HPUT.out.mono ?_
    intro e w3 hp
    obtain ⟨v3, rfl⟩ := hp.ret
    have hkb3 := hp.1.bk HKB.out (by simp only [ringT]; decide)
    have p1 := hkb3.at_ (i := 1) (u := .int .i64 ky) rfl
    have HADD := hide (radd_any w0.heap.size r most L (ky, true, []) none 0 w3 (ringT_rb HSB.out.ref hp.1) ⟨Nat.le_refl _, by simp, .inl rfl, .inl rfl⟩ HSB.out.le.2.2 HSB.out.le.2.1 HSB.out.le.1 (Nat.le_trans HSB.out.lt hp.1.size))
    have HP := hide hp
    unfold ptr at HADD
    clear hp hkb3 o0 o1 o2
    go_wp2_with fail
    refine HADD.out.mono ?_
    intro e w4 hq
    obtain ⟨k, rfl, hor, hboth⟩ := HSB.out.add HP.out hq
    have HB4 := hide hboth
    clear hq hboth
    rcases hor with ⟨rfl, he⟩ | he
    · injection he with he
      subst he
      go_wp2_with fail
      refine (error_nil 0 _ true (by decide)).mono ?_
      rintro e w9 ⟨rfl, hb9⟩
      go_wp2_with fail
      go_ret
      exact ⟨rfl, _, HB4.out.below hb9⟩
    · injection he with he
      subst he
      unfold errV
      go_wp2_with fail
      refine (error_some k k _ (HERR.out.below HB4.out.low (Nat.le_refl _)) true (by simp)).mono ?_
      rintro e w9 ⟨rfl, hb9⟩
      go_wp2_with fail
      go_ret
      exact ⟨rfl, _, HB4.out.below hb9⟩
  have hb2 : (kx == 2) = false := by simp [hk2]
  clear hk2
  by_cases hk3 : kx = 3
  · have hb3 : (kx == 3) = true := by simp [hk3]
    clear hk3
    unfold ptr
    go_enter Tryd.func12, Tryd.ntmps12
    go_wp2_with fail
    generalize w.alloc (.cells #[.int .i64 kx, .int .i64 ky, .slice As ls.length cs] 44) = wb at *
    have HGET := hide (get_any w0.heap.size g most L ky wb HSB.out.buf HBY.out.1 HBY.out.2)
    unfold ptr at HGET
    refine HGET.out.mono ?_
    intro e w3 hp
    have HS3 := hide (HSB.out.below hp.1)
    have hkb3 := HKB.out.below hp.1 HKB.out.lt
    have p1 := hkb3.at_ (i := 1) (u := .int .i64 ky) rfl
    have HFI := hide (find_any w0.heap.size r most L ky w3 HS3.out.ref HS3.out.le.2.1)
    unfold ptr at HFI
    have HB3 := hide hp.1
    obtain ⟨-, ⟨hneg, rfl⟩ | ⟨hneg, hlk, rfl⟩ | ⟨hneg, x, D, c, hlk, rfl, hD, -, hown⟩⟩ := hp
    · have d1 : decide (ky < 0) = true := decide_eq_true hneg
      clear hneg hkb3 o0 o1 o2
      unfold errV
      go_wp2_with fail
      refine HFI.out.mono ?_
      rintro e w4 ⟨kf, rfl, -, rfl⟩
      go_wp2_with fail
      refine (error_some 1 1 _ (HERR.out.below HS3.out.low (Nat.le_refl _)) true (by decide)).mono ?_
      rintro e w9 ⟨rfl, hb9⟩
      go_wp2_with fail
      go_ret
      exact ⟨rfl, _, HS3.out.below hb9⟩
    · have d1 : decide (ky < 0) = false := decide_eq_false (by omega)
      have HLK := hide hlk
      clear hneg hlk hkb3 o0 o1 o2
      unfold errV
      go_wp2_with fail
      refine HFI.out.mono ?_
      rintro e w4 ⟨kf, rfl, hfi, rfl⟩
      have hkf : kf = -1 := by
        rcases hfi with ⟨h, -⟩ | ⟨i, y, -, -, -, h⟩
        · exact h
        · rw [HLK.out] at h; cases h
      subst hkf
      clear hfi
      go_wp2_with fail
      refine (error_some 4 4 _ (HERR.out.below HS3.out.low (Nat.le_refl _)) true (by decide)).mono ?_
      rintro e w9 ⟨rfl, hb9⟩
      go_wp2_with fail
      go_ret
      exact ⟨rfl, _, HS3.out.below hb9⟩
    · have d1 : decide (ky < 0) = false := decide_eq_false (by omega)
      have HLK := hide hlk
      have HDX := hide (hD 0)
      have HOWN := hide hown
      clear hneg hlk hkb3 hD hown o0 o1 o2
      go_wp2_with fail
      refine HFI.out.mono ?_
      rintro e w4 ⟨kf, rfl, hfi, rfl⟩
      obtain ⟨i, rfl, hiL⟩ : ∃ i : Nat, kf = i ∧ L[i]? = some x := by
        rcases hfi with ⟨-, h⟩ | ⟨i, y, h1, h2, -, h⟩
        · rw [HLK.out] at h; cases h
        · rw [HLK.out] at h
          injection h with h
          subst h
          exact ⟨i, h1, h2⟩
      have d2 : decide ((i : Int) < 0) = false := decide_eq_false (by omega)
      obtain ⟨v, hrk, hBr, A2, c2, rfl, hc2, hi2⟩ := HS3.out.ref
      obtain ⟨b, off, A', c', rfl, -, -, y0, y1, y2, hyd⟩ := hi2 i x hiL
      have r1 := hrk.at_ (i := 1) (u := .slice (some ⟨b, off, none⟩) L.length c2) rfl
      have hil : (i : Int) < (L.length : Int) := by have := (List.getElem?_eq_some_iff.1 hiL).1; omega
      have HYD := hide hyd
      have HRK := hide hrk
      have HHI := hide (hi2 i x hiL)
      have HIL := hide hiL
      obtain ⟨x0, x1, xd⟩ := x
      simp only at y0 y1 y2
      clear hfi hiL hrk hBr hc2 hi2 hyd HFI
      go_wp2_with fail
      refine (same_any D A' xd xd xd.length xd.length c c' w4 rfl rfl (by have := HDX.out.2.1; omega) HDX.out.2.2.2 HYD.out.2.2.2 true (by simp)).mono ?_
      rintro e w5 ⟨rfl, d5, rfl⟩
      clear r1 y0 y1 y2 p1
      have HXL : Hid (xd.length ≤ 140737488351232) := hide HDX.out.2.1
      have HST : Hid (Below wb.heap.size wb (w4.drewN d5) ∧ (0 < xd.length → ∃ g0 cur, D = some ⟨g0, 0, none⟩ ∧ wb.heap.size ≤ g0 ∧ Bk (w4.drewN d5) g0 5 cur ∧ ∀ q, 0 ≤ q → q < xd.length → ∃ z, cur[q]? = some (.int .u8 z))) := hide (by
        refine ⟨below_drewN HB3.out d5, fun hpos => ?_⟩
        obtain ⟨g0, cap, cur, hv, hg, -, hh, hn, -, hsz, htk⟩ := own_block HOWN.out hpos
        injection hv with hv _ _
        refine ⟨g0, cur, hv, hg, hh, fun q _ hq => ?_⟩
        refine ⟨((xd[q]'hq).toNat : Int), ?_⟩
        have h1 : (cur.toList.take xd.length)[q]? = (u8v xd)[q]? := by rw [htk]
        rw [List.getElem?_take_of_lt hq] at h1
        have h2 : cur[q]? = cur.toList[q]? := by simp
        rw [h2, h1]
        simp [u8v, hq])
      clear HHI HRK HOWN HDX HYD
      generalize w4.drewN d5 = W5 at *
      obtain ⟨n, hn⟩ : ∃ n, n = xd.length := ⟨_, rfl⟩
      have HN := hide hn
      rw [← hn] at HST ⊢
      have hn9 : n ≤ 140737488351232 := by rw [hn]; exact HXL.out
      clear hn
      go_wp2_with fail
      go_loopw [16] (fun j wr => ∃ j' : Nat, j' ≤ n ∧ j = .int .i64 j' ∧ Hid (Below wb.heap.size wb wr ∧ (j' < n → ∃ g0 cur, D = some ⟨g0, 0, none⟩ ∧ wb.heap.size ≤ g0 ∧ Bk wr g0 5 cur ∧ ∀ q, j' ≤ q → q < n → ∃ z, cur[q]? = some (.int .u8 z)))) (fun j _ => n - (intOf j).toNat)
      case atStart => exact ⟨0, by omega, rfl, HST⟩
      case round =>
        obtain ⟨j, hj, rfl, HT⟩ := hrel
        by_cases hlt : j < n
        · have hd1 : decide ((j : Int) < (n : Int)) = true := by simp; omega
          have hji : (j : Int) < (n : Int) := by omega
          obtain ⟨g0, cur, rfl, hg0, hbk, hz⟩ := HT.out.2 hlt
          obtain ⟨z, hzj⟩ := hz j (Nat.le_refl _) hlt
          have q1 := hbk.at_ hzj
          have q2 := hbk.free j
          have HBK := hide hbk
          have HZ := hide hz
          have HG := hide hg0
          have HTB := hide HT.out.1
          clear hbk hz hzj hg0 HT HST
          go_wp2_with fail
          go_roundw
          case rel =>
            refine ⟨j + 1, by omega, by go_num, hide ⟨HTB.out.setCell HG.out _, fun _ => ⟨g0, _, rfl, HG.out, HBK.out.put j _, fun q hq hqn => ?_⟩⟩⟩
            obtain ⟨z', hz'⟩ := HZ.out q (by omega) hqn
            exact ⟨z', by rw [Array.getElem?_setIfInBounds_ne (by omega)]; exact hz'⟩
          case measure => simp [intOf]; omega
        · have hd1 : decide ((j : Int) < (n : Int)) = false := by simp; omega
          have HSE := hide (HSB.out.below HT.out.1)
          obtain ⟨v, hrk, hBr, A2, c2, rfl, hc2, hi2⟩ := HSE.out.ref
          obtain ⟨i', hi', hii⟩ : ∃ i', L[i']? = some (x0, x1, xd) ∧ i' = i := ⟨i, HIL.out, rfl⟩
          subst hii
          obtain ⟨b, off, A', c', rfl, -, -, y0, y1, y2, hyd⟩ := hi2 i' _ hi'
          have r1 := hrk.at_ (i := 1) (u := .slice (some ⟨b, off, none⟩) L.length c2) rfl
          have hbx : (x1 == x1) = true := by simp
          simp only at y0 y1 y2
          clear hrk hBr hc2 hi2 hi' hyd HT HST
          go_wp2_with fail
          go_ret
          exact ⟨rfl, _, HSE.out⟩
  have hb3 : (kx == 3) = false := by simp [hk3]
  clear hk3
  unfold ptr
  go_enter Tryd.func12, Tryd.ntmps12
  go_wp2_with fail
  generalize w.alloc (.cells #[.int .i64 kx, .int .i64 ky, .slice As ls.length cs] 44) = wb at *
  have HDR := hide (drain_any w0.heap.size g most L ky wb HSB.out.buf)
  unfold ptr at HDR
  refine HDR.out.mono ?_
  rintro e w3 ⟨v3, rfl, hr3, hb3', hf3⟩
  have hkb3 := hf3.bk HKB.out (by simp only [drainT]; decide)
  have p1 := hkb3.at_ (i := 1) (u := .int .i64 ky) rfl
  have HREF := hide (HSB.out.ref.fr hf3 (fun _ _ => by simp only [drainT]; decide) not_u8d (fun _ _ => by simp only [drainT]; decide))
  have HLT : Hid (w0.heap.size ≤ w3.heap.size) := hide (Nat.le_trans HSB.out.lt hf3.size)
  have HLOW := hide (HSB.out.low.trans hf3.low)
  have HBUF := hide hb3'
  obtain ⟨q, hq⟩ : ∃ q, q = min ky.toNat L.length := ⟨_, rfl⟩
  rw [← hq] at hr3 HBUF
  have HQ : Hid (q ≤ L.length) := hide (by omega)
  have htl : (L.take q).length = q := by rw [List.length_take]; omega
  have HTL := hide htl
  have HF3 := hr3.form
  rw [htl] at HF3
  obtain ⟨AT, cT, rfl, -, -⟩ := HF3
  have HR3 := hide hr3
  obtain ⟨v, hrk, hBr, A2, c2, rfl, hc2, hi2⟩ := HREF.out
  have r1 := hrk.at_ (i := 1) (u := .slice A2 L.length c2) rfl
  have dne : ((q : Int) != (q : Int)) = false := by simp
  have hl16 : L.length ≤ 16 := HSB.out.le.2.1
  clear hr3 hb3' hf3 hkb3 htl hrk hBr hc2 hi2 o0 o1 o2 HDR
  by_cases hneg : ky < 0
  · have d1 : decide (ky < 0) = true := decide_eq_true hneg
    have hq0 : q = 0 := by omega
    subst hq0
    have d2 : decide ((0 : Int) > (L.length : Int)) = false := decide_eq_false (by omega)
    clear hneg hq
    go_wp2_with fail
    go_loopw [19] (fun i wr => ∃ j : Nat, j ≤ 0 ∧ i = .int .i64 j ∧ Hid (Below w3.heap.size w3 wr)) (fun i _ => 0 - (intOf i).toNat)
    case atStart => exact ⟨0, by omega, rfl, hide (Below.refl _ _)⟩
    case round =>
      obtain ⟨j, hj, rfl, HB⟩ := hrel
      have HREFW := hide (RBuf.below HREF.out HLT.out HB.out)
      have HRW := hide (RowsAt.below' HR3.out HLT.out HB.out)
      obtain ⟨v, hrk, hBr, A2, c2, rfl, hc2, hi2⟩ := HREFW.out
      have r1 := hrk.at_ (i := 1) (u := .slice A2 L.length c2) rfl
      have HRK := hide hrk
      have HBR := hide hBr
      by_cases hlt : j < 0
      · exact absurd hlt (Nat.not_lt_zero j)
      · have hd1 : decide ((j : Int) < 0) = false := decide_eq_false (by omega)
        have hql : ((0 : Nat) : Int) ≤ (L.length : Int) := by have := HQ.out; omega
        have q2 := HRK.out.free 1
        have HHI : Hid (RdI wr w0.heap.size (.slice A2 L.length c2) L) := hide ⟨A2, c2, rfl, hc2, hi2⟩
        have HC2 := hide hc2
        have hqc : ((0 : Nat) : Int) ≤ (c2 : Int) := by omega
        clear hi2 hrk hBr hc2
        have FIN : Hid (∀ A' m k, m = L.length - 0 → k = c2 - 0 → A' = (if c2 = 0 then A2 else A2.map (·.add (0 * 3))) → Both w0 (wr.setCell ⟨r, 1, none⟩ (.slice A' m k)) g r most (L.drop 0)) := hide (fun A' m k hm hk hA' => by
          rw [hm, hk]
          have fs := Fr.set (T := rbufT) (p := ⟨r, 1, none⟩) HRK.out HBR.out rfl (.slice A' (L.length - 0) (c2 - 0))
          exact ⟨(HLOW.out.trans (HB.out.mono HLT.out)).trans fs.low, rbuf_fr (HBUF.out.below HB.out) fs, _, HRK.out.put 1 _, HBR.out, (HHI.out.drop 0 HQ.out A' hA').fr fs (fun _ _ => by simp only [rbufT]; decide) (fun _ _ => by simp only [rbufT]; decide)⟩)
        go_wp2_with fail
        all_goals go_ret
        all_goals exact ⟨rfl, _, FIN.out _ _ _ (by first | rfl | omega | simp [*]) (by first | rfl | omega | simp [*]) (by first | rfl | (simp [*]; done) | (rw [add0]; split <;> rfl))⟩
  · have d1 : decide (ky < 0) = false := decide_eq_false hneg
    by_cases hbig : ky > (L.length : Int)
    · have d2 : decide (ky > (L.length : Int)) = true := decide_eq_true hbig
      have hql : q = L.length := by omega
      clear hneg hbig hq
      subst hql
      go_wp2_with fail
      go_loopw [19] (fun i wr => ∃ j : Nat, j ≤ L.length ∧ i = .int .i64 j ∧ Hid (Below w3.heap.size w3 wr)) (fun i _ => L.length - (intOf i).toNat)
      case atStart => exact ⟨0, by omega, rfl, hide (Below.refl _ _)⟩
      case round =>
        obtain ⟨j, hj, rfl, HB⟩ := hrel
        have HREFW := hide (RBuf.below HREF.out HLT.out HB.out)
        have HRW := hide (RowsAt.below' HR3.out HLT.out HB.out)
        obtain ⟨v, hrk, hBr, A2, c2, rfl, hc2, hi2⟩ := HREFW.out
        have r1 := hrk.at_ (i := 1) (u := .slice A2 L.length c2) rfl
        have HRK := hide hrk
        have HBR := hide hBr
        by_cases hlt : j < L.length
        · have hd1 : decide ((j : Int) < (L.length : Int)) = true := by simp; omega
          have hji : (j : Int) < (L.length : Int) := by omega
          have hjl : (j : Int) < (L.length : Int) := by have := HQ.out; omega
          obtain ⟨y, hy⟩ : ∃ y, L[j]? = some y := ⟨L[j]'(by omega), List.getElem?_eq_getElem (by omega)⟩
          have hyT : (L.take L.length)[j]? = some y := by rw [List.getElem?_take_of_lt hlt]; exact hy
          obtain ⟨b, off, A', c', rfl, -, -, y0, y1, y2, hyd⟩ := hi2 j y hy
          obtain ⟨gt, ct, At, ca, hAT, t0, t1, t2, htd, -, -⟩ := HRW.out.get hyT
          rw [HTL.out] at hAT
          obtain ⟨rfl, rfl⟩ : AT = some ⟨gt, 0, none⟩ ∧ cT = ct := by injection hAT with h1 h2 h3; exact ⟨h1, h3⟩
          obtain ⟨z0, z1, zd⟩ := y
          simp only at y0 y1 y2 t0 t1 t2
          have fa := bk_alloc_fr (B := w3.heap.size) (w := wr) HB.out.size (.cells #[.int .i64 z0, .bool z1, .slice A' zd.length c'] 77)
          have HK := hide (Bk.new wr 77 #[.int .i64 z0, .bool z1, .slice A' zd.length c'])
          have k0 := HK.out.at_ (i := 0) (u := .int .i64 z0) rfl
          have k1 := HK.out.at_ (i := 1) (u := .bool z1) rfl
          have k2 := HK.out.at_ (i := 2) (u := .slice A' zd.length c') rfl
          have hcell : ∀ (o : Nat) u, wr.cell? ⟨gt, o, none⟩ = some u → (wr.alloc (.cells #[.int .i64 z0, .bool z1, .slice A' zd.length c'] 77)).cell? ⟨gt, o, none⟩ = some u := fun o u hu => (World.cell?_of_block (w := wr) (Below.heap_alloc wr _ gt (World.block_lt_of_cell? wr _ hu))).trans hu
          have t0' := hcell _ _ t0
          have t1' := hcell _ _ t1
          have t2' := hcell _ _ t2
          have fn := bk_alloc_fr (B := w0.heap.size) (w := wr) (Nat.le_trans HLT.out HB.out.size) (.cells #[.int .i64 z0, .bool z1, .slice A' zd.length c'] 77)
          have HTD := hide (htd.fr fn (fun _ _ h => h))
          have HYD := hide (hyd.fr fn (fun _ _ h => h))
          have HBA : Hid (Below w3.heap.size w3 (wr.alloc (.cells #[.int .i64 z0, .bool z1, .slice A' zd.length c'] 77))) := hide (HB.out.trans fa.low)
          have hz0 : (z0 != z0) = false := by simp
          have hz1 : (z1 != z1) = false := by simp
          clear hAT hi2 hc2 hrk hBr hy hyT hyd htd fa fn hcell t0 t1 t2
          go_wp2_with fail
          generalize wr.alloc (.cells #[.int .i64 z0, .bool z1, .slice A' zd.length c'] 77) = wy at *
          go_quiet (first
            | (go_at_call 10
               exact Calls.quiet_of (same_any At A' zd zd zd.length zd.length ca c' _ rfl rfl (by have := HTD.out.2.1; omega) (by exact HTD.out.2.2.2) (by exact HYD.out.2.2.2) true (by simp))))
          go_wp2_with fail
          go_quiet (fail)
          go_wp2_with fail
          go_roundw
          case rel => exact ⟨j + 1, by omega, by go_num, hide (by first | exact below_drewN (below_drewN HBA.out _) _ | exact below_drewN HBA.out _)⟩
          case measure => simp [intOf]; omega
        · have hd1 : decide ((j : Int) < (L.length : Int)) = false := by simp; omega
          have hql : (L.length : Int) ≤ (L.length : Int) := by have := HQ.out; omega
          have q2 := HRK.out.free 1
          have HHI : Hid (RdI wr w0.heap.size (.slice A2 L.length c2) L) := hide ⟨A2, c2, rfl, hc2, hi2⟩
          have HC2 := hide hc2
          have hqc : (L.length : Int) ≤ (c2 : Int) := by omega
          clear hi2 hrk hBr hc2
          have FIN : Hid (∀ A' m k, m = L.length - L.length → k = c2 - L.length → A' = (if c2 = L.length then A2 else A2.map (·.add (L.length * 3))) → Both w0 (wr.setCell ⟨r, 1, none⟩ (.slice A' m k)) g r most (L.drop L.length)) := hide (fun A' m k hm hk hA' => by
            rw [hm, hk]
            have fs := Fr.set (T := rbufT) (p := ⟨r, 1, none⟩) HRK.out HBR.out rfl (.slice A' (L.length - L.length) (c2 - L.length))
            exact ⟨(HLOW.out.trans (HB.out.mono HLT.out)).trans fs.low, rbuf_fr (HBUF.out.below HB.out) fs, _, HRK.out.put 1 _, HBR.out, (HHI.out.drop L.length HQ.out A' hA').fr fs (fun _ _ => by simp only [rbufT]; decide) (fun _ _ => by simp only [rbufT]; decide)⟩)
          go_wp2_with fail
          all_goals go_ret
          all_goals exact ⟨rfl, _, FIN.out _ _ _ (by first | rfl | omega | simp [*]) (by first | rfl | omega | simp [*]) (by first | rfl | (simp [*]; done) | (rw [add0]; split <;> rfl))⟩
    · have d2 : decide (ky > (L.length : Int)) = false := decide_eq_false hbig
      have hkq : ky = (q : Int) := by omega
      clear hneg hbig hq
      subst hkq
      have hnl : ¬ L.length < q := by have := HQ.out; omega
      go_wp2_with fail
      go_loopw [19] (fun i wr => ∃ j : Nat, j ≤ q ∧ i = .int .i64 j ∧ Hid (Below w3.heap.size w3 wr)) (fun i _ => q - (intOf i).toNat)
      case atStart => exact ⟨0, by omega, rfl, hide (Below.refl _ _)⟩
      case round =>
        obtain ⟨j, hj, rfl, HB⟩ := hrel
        have HREFW := hide (RBuf.below HREF.out HLT.out HB.out)
        have HRW := hide (RowsAt.below' HR3.out HLT.out HB.out)
        obtain ⟨v, hrk, hBr, A2, c2, rfl, hc2, hi2⟩ := HREFW.out
        have r1 := hrk.at_ (i := 1) (u := .slice A2 L.length c2) rfl
        have HRK := hide hrk
        have HBR := hide hBr
        by_cases hlt : j < q
        · have hd1 : decide ((j : Int) < (q : Int)) = true := by simp; omega
          have hji : (j : Int) < (q : Int) := by omega
          have hjl : (j : Int) < (L.length : Int) := by have := HQ.out; omega
          obtain ⟨y, hy⟩ : ∃ y, L[j]? = some y := ⟨L[j]'(by omega), List.getElem?_eq_getElem (by omega)⟩
          have hyT : (L.take q)[j]? = some y := by rw [List.getElem?_take_of_lt hlt]; exact hy
          obtain ⟨b, off, A', c', rfl, -, -, y0, y1, y2, hyd⟩ := hi2 j y hy
          obtain ⟨gt, ct, At, ca, hAT, t0, t1, t2, htd, -, -⟩ := HRW.out.get hyT
          rw [HTL.out] at hAT
          obtain ⟨rfl, rfl⟩ : AT = some ⟨gt, 0, none⟩ ∧ cT = ct := by injection hAT with h1 h2 h3; exact ⟨h1, h3⟩
          obtain ⟨z0, z1, zd⟩ := y
          simp only at y0 y1 y2 t0 t1 t2
          have fa := bk_alloc_fr (B := w3.heap.size) (w := wr) HB.out.size (.cells #[.int .i64 z0, .bool z1, .slice A' zd.length c'] 77)
          have HK := hide (Bk.new wr 77 #[.int .i64 z0, .bool z1, .slice A' zd.length c'])
          have k0 := HK.out.at_ (i := 0) (u := .int .i64 z0) rfl
          have k1 := HK.out.at_ (i := 1) (u := .bool z1) rfl
          have k2 := HK.out.at_ (i := 2) (u := .slice A' zd.length c') rfl
          have hcell : ∀ (o : Nat) u, wr.cell? ⟨gt, o, none⟩ = some u → (wr.alloc (.cells #[.int .i64 z0, .bool z1, .slice A' zd.length c'] 77)).cell? ⟨gt, o, none⟩ = some u := fun o u hu => (World.cell?_of_block (w := wr) (Below.heap_alloc wr _ gt (World.block_lt_of_cell? wr _ hu))).trans hu
          have t0' := hcell _ _ t0
          have t1' := hcell _ _ t1
          have t2' := hcell _ _ t2
          have fn := bk_alloc_fr (B := w0.heap.size) (w := wr) (Nat.le_trans HLT.out HB.out.size) (.cells #[.int .i64 z0, .bool z1, .slice A' zd.length c'] 77)
          have HTD := hide (htd.fr fn (fun _ _ h => h))
          have HYD := hide (hyd.fr fn (fun _ _ h => h))
          have HBA : Hid (Below w3.heap.size w3 (wr.alloc (.cells #[.int .i64 z0, .bool z1, .slice A' zd.length c'] 77))) := hide (HB.out.trans fa.low)
          have hz0 : (z0 != z0) = false := by simp
          have hz1 : (z1 != z1) = false := by simp
          clear hAT hi2 hc2 hrk hBr hy hyT hyd htd fa fn hcell t0 t1 t2
          go_wp2_with fail
          generalize wr.alloc (.cells #[.int .i64 z0, .bool z1, .slice A' zd.length c'] 77) = wy at *
          go_quiet (first
            | (go_at_call 10
               exact Calls.quiet_of (same_any At A' zd zd zd.length zd.length ca c' _ rfl rfl (by have := HTD.out.2.1; omega) (by exact HTD.out.2.2.2) (by exact HYD.out.2.2.2) true (by simp))))
          go_wp2_with fail
          go_quiet (fail)
          go_wp2_with fail
          go_roundw
          case rel => exact ⟨j + 1, by omega, by go_num, hide (by first | exact below_drewN (below_drewN HBA.out _) _ | exact below_drewN HBA.out _)⟩
          case measure => simp [intOf]; omega
        · have hd1 : decide ((j : Int) < (q : Int)) = false := by simp; omega
          have hql : (q : Int) ≤ (L.length : Int) := by have := HQ.out; omega
          have q2 := HRK.out.free 1
          have HHI : Hid (RdI wr w0.heap.size (.slice A2 L.length c2) L) := hide ⟨A2, c2, rfl, hc2, hi2⟩
          have HC2 := hide hc2
          have hqc : (q : Int) ≤ (c2 : Int) := by omega
          clear hi2 hrk hBr hc2
          have FIN : Hid (∀ A' m k, m = L.length - q → k = c2 - q → A' = (if c2 = q then A2 else A2.map (·.add (q * 3))) → Both w0 (wr.setCell ⟨r, 1, none⟩ (.slice A' m k)) g r most (L.drop q)) := hide (fun A' m k hm hk hA' => by
            rw [hm, hk]
            have fs := Fr.set (T := rbufT) (p := ⟨r, 1, none⟩) HRK.out HBR.out rfl (.slice A' (L.length - q) (c2 - q))
            exact ⟨(HLOW.out.trans (HB.out.mono HLT.out)).trans fs.low, rbuf_fr (HBUF.out.below HB.out) fs, _, HRK.out.put 1 _, HBR.out, (HHI.out.drop q HQ.out A' hA').fr fs (fun _ _ => by simp only [rbufT]; decide) (fun _ _ => by simp only [rbufT]; decide)⟩)
          go_wp2_with fail
          all_goals go_ret
          all_goals exact ⟨rfl, _, FIN.out _ _ _ (by first | rfl | omega | simp [*]) (by first | rfl | omega | simp [*]) (by first | rfl | (simp [*]; done) | (rw [add0]; split <;> rfl))⟩
end Go.Proofs.YtndhmdengadmjaaDoor.BufL
