/- The walk of granarylaw1.BufferLast. -/
import Derived.Test.YtndhmdengadmjaaDoorBufPut
import Derived.Test.YtndhmdengadmjaaDoorBufNew
import Derived.Test.YtndhmdengadmjaaDoorBufGet
import Derived.Test.YtndhmdengadmjaaDoorDrain
import Derived.Test.YtndhmdengadmjaaDoorOpRows
import Derived.Test.YtndhmdengadmjaaDoorTold
set_option linter.unusedVariables false
namespace Go.Proofs.YtndhmdengadmjaaDoor.BufL
open Go.RowKit I64 BufP BufW Items ToldW

theorem _root_.Go.Proofs.YtndhmdengadmjaaDoor.BufW.GetPost.ret {w w' : World} {L : List It} {y : Int} {e : Ending} (h : GetPost w L y e w') : (∃ a b c, e = .returned (.tuple #[a, b, c])) ∧ Below w.heap.size w w' := by
  obtain ⟨hb, ⟨-, rfl⟩ | ⟨-, -, rfl⟩ | ⟨-, x, D, c, -, rfl, -⟩⟩ := h
  · exact ⟨⟨_, _, _, rfl⟩, hb⟩
  · exact ⟨⟨_, _, _, rfl⟩, hb⟩
  · exact ⟨⟨_, _, _, rfl⟩, hb⟩
theorem _root_.Go.Proofs.YtndhmdengadmjaaDoor.BufW.GetPost.hit {w w' : World} {L : List It} {y : Int} {e : Ending} {x : It} (h : GetPost w L y e w') (hy : 0 ≤ y) (hx : lk L y = some x) : (∃ D c, e = .returned (.tuple #[.slice D x.2.2.length c, .bool x.2.1, .nilIface]) ∧ (∀ B, BufW.Data w' B x.2.2 D c)) ∧ Below w.heap.size w w' := by
  obtain ⟨hb, ⟨h0, -⟩ | ⟨-, h0, -⟩ | ⟨-, x', D, c, h0, he, hd, -⟩⟩ := h
  · omega
  · rw [hx] at h0; cases h0
  · rw [hx] at h0
    injection h0 with h0
    subst h0
    exact ⟨⟨D, c, he, hd⟩, hb⟩

structure SB (w0 w : World) (g : Nat) (most : Int) (L : List It) : Prop where
  low : Below w0.heap.size w0 w
  buf : BufAt w w0.heap.size g most L

section
variable {w0 w w' : World} {g : Nat} {most : Int} {L L' : List It}
theorem SB.lt (h : SB w0 w g most L) : w0.heap.size ≤ w.heap.size := h.low.size
theorem SB.below (h : SB w0 w g most L) (hb : Below w.heap.size w w') : SB w0 w' g most L := ⟨h.low.trans (hb.mono h.lt), h.buf.below hb⟩
theorem SB.fr {T : Obj → Prop} (h : SB w0 w g most L) (hf : Fr w0.heap.size T w w') (hb : BufAt w' w0.heap.size g most L') : SB w0 w' g most L' := ⟨h.low.trans hf.low, hb⟩
theorem SB.le (h : SB w0 w g most L) : (L.length : Int) ≤ most ∧ most ≤ 16 ∧ Once L := by
  obtain ⟨_, _, _, _, _, _, _, _, _, _, h0, h1, h2, _⟩ := h.buf
  exact ⟨h1, h2, h0⟩
end
theorem _root_.Go.Proofs.YtndhmdengadmjaaDoor.BufW.AddPost.any {w w' : World} {B g : Nat} {most : Int} {L : List It} {x : It} {e : Ending} (h : AddPost w B g most L x e w') : (∃ v, e = .returned v) ∧ Fr B ringT w w' ∧ ∃ L', BufAt w' B g most L' := by
  refine ⟨h.ret, h.1, ?_⟩
  obtain ⟨-, ⟨-, -, h⟩ | ⟨k, -, -, -, -, -, h⟩⟩ := h
  · exact ⟨_, h⟩
  · exact ⟨_, h⟩
theorem _root_.Go.Proofs.YtndhmdengadmjaaDoor.BufW.AddPost.take {w w' : World} {B g : Nat} {most : Int} {L : List It} {x : It} {e : Ending} (h : AddPost w B g most L x e w') (h0 : addCode most L x = 0) : e = .returned .nilIface ∧ Fr B ringT w w' ∧ BufAt w' B g most (add L x) := by
  obtain ⟨hf, ⟨-, he, h⟩ | ⟨k, hk, hk0, -⟩⟩ := h
  · exact ⟨he, hf, h⟩
  · exact absurd (hk.symm.trans h0) hk0
theorem _root_.Go.Proofs.YtndhmdengadmjaaDoor.BufW.AddPost.not_ {w w' : World} {B g : Nat} {most : Int} {L : List It} {x : It} {e : Ending} {k : Int} (h : AddPost w B g most L x e w') (hk : addCode most L x = k) (h0 : k ≠ 0) : e = .returned (errV k) ∧ Fr B ringT w w' ∧ BufAt w' B g most L := by
  obtain ⟨hf, ⟨hc, -⟩ | ⟨k', hk', -, -, -, he, h⟩⟩ := h
  · exact absurd (hk.symm.trans hc) h0
  · obtain rfl : k = k' := hk.symm.trans hk'
    exact ⟨he, hf, h⟩
theorem addCode_neg {most : Int} {L : List It} {x : It} (h : x.1 < 0) : addCode most L x = 1 := if_pos h
theorem addCode_full {most : Int} {L : List It} {x : It} (h : ¬ x.1 < 0) (h2 : lk L x.1 = none) (h3 : (L.length : Int) = most) : addCode most L x = 3 := by
  unfold addCode
  rw [if_neg h, if_pos ⟨by rw [h2]; rfl, h3⟩]
theorem addCode_ok {most : Int} {L : List It} {x : It} (h : ¬ x.1 < 0) (h2 : ¬ (lk L x.1 = none ∧ (L.length : Int) = most)) : addCode most L x = 0 := by
  unfold addCode
  rw [if_neg h, if_neg (fun e => h2 ⟨Option.isNone_iff_eq_none.1 e.1, e.2⟩)]

set_option maxRecDepth 100000 in
set_option maxHeartbeats 8000000 in
theorem last_law (w : World) (hE : ErrT w) (most : Int) (hm1 : -9223372036854775808 ≤ most) (hm2 : most ≤ 9223372036854775807) (A : Option Addr) (n c : Nat) (S : Nat → OpR) (hn : n ≤ c) (h40 : n * 40 ≤ 140737488351232) (hr : RdO w A n S)
    (lba : Int) (hl1 : -9223372036854775808 ≤ lba) (hl2 : lba ≤ 9223372036854775807) (Ad : Option Addr) (ld : List UInt8) (nd cd : Nat) (hnd : nd = ld.length) (hcd : nd ≤ cd) (hmd : cd ≤ 140737488351232) (hrd : Rd w Ad (u8v ld)) :
    Calls Tryd.prog 5 #[.int .i64 most, .slice A n c, .int .i64 lba, .slice Ad nd cd] w fun e w' => e = .returned (.bool true) ∧ Below w.heap.size w w' := by
  by_cases hbad : most < 1 ∨ 16 < most
  · have HN := hide (new_bad most w hbad)
    have HB := hide hbad
    unfold errV at HN
    by_cases h1 : most < 1
    · have d1 : decide (most < 1) = true := decide_eq_true h1
      clear hbad h1
      go_enter Tryd.func5, Tryd.ntmps5
      go_wp2_with (first
        | (go_at_call 11
           refine HN.out.mono ?_
           rintro e w1 ⟨rfl, rfl⟩)
        | fail)
      go_ret
      exact ⟨rfl, Below.refl _ _⟩
    · have d1 : decide (most < 1) = false := decide_eq_false h1
      have d2 : decide (most > 16) = true := decide_eq_true (by omega)
      clear hbad h1
      go_enter Tryd.func5, Tryd.ntmps5
      go_wp2_with (first
        | (go_at_call 11
           refine HN.out.mono ?_
           rintro e w1 ⟨rfl, rfl⟩)
        | fail)
      go_ret
      exact ⟨rfl, Below.refl _ _⟩
  have HNEW := hide (new_any most w (by omega) (by omega))
  have HR := hide hr
  have hn9 : n ≤ 3518437208780 := by omega
  have HM := hide (show 1 ≤ most ∧ most ≤ 16 by omega)
  have HND := hide hnd
  have HLB := hide (And.intro hl1 hl2)
  have HRD := hide hrd
  have HERR := hide hE
  have HMD := hide (show nd ≤ 140737488351232 by omega)
  clear hbad hr h40 hnd hrd hE
  go_enter Tryd.func5, Tryd.ntmps5
  go_wp2_with (first
    | (go_at_call 11
       refine HNEW.out.mono ?_
       rintro e w1 ⟨g, rfl, hbuf1, hlow1⟩
       have ST := hide (show SB w w1 g most [] from ⟨hlow1, hbuf1⟩)
       clear hbuf1 hlow1
       unfold ptr)
    | fail)
  go_loopw [11] (fun i wr => ∃ (j : Nat) (L : List It), j ≤ n ∧ i = .int .i64 j ∧ Hid (SB w wr g most L)) (fun i _ => n - (intOf i).toNat)
  case atStart => exact ⟨0, [], by omega, rfl, ST⟩
  case round =>
    obtain ⟨j, L, hj, rfl, HS⟩ := hrel
    by_cases hlt : j < n
    · have hd1 : decide ((j : Int) < (n : Int)) = true := by simp; omega
      have hji : (j : Int) < (n : Int) := by omega
      obtain ⟨b, off, rfl, hb, c0, c1, c2, hlc, hcm, hrd, hbx, hby⟩ := HR.out j hlt
      have hbel := HS.out.low
      have x0 := (hbel.cell hb).trans c0
      have x1 := (hbel.cell hb).trans c1
      have x2 := (hbel.cell hb).trans c2
      have HRS := hide (hrd.below hbel)
      clear c0 c1 c2 hrd hbel HNEW ST
      generalize S j = s at *
      obtain ⟨kx, ky, ls, As, cs⟩ := s
      simp only at x0 x1 x2 HRS hlc hcm hbx hby
      have HBY := hide hby
      have HLS := hide (show ls.length ≤ 140737488351232 by omega)
      clear hlc hcm hbx hby
      have HWB : Hid (Below wr.heap.size wr (wr.alloc (.cells #[.int .i64 kx, .int .i64 ky, .slice As ls.length cs] 44))) := hide ((Below.refl _ _).alloc (Nat.le_refl _) _)
      have HKB := hide (Bk.new wr 44 #[.int .i64 kx, .int .i64 ky, .slice As ls.length cs])
      have HSB := hide (HS.out.below HWB.out)
      have HDB := hide (HRS.out.below HWB.out)
      have o0 := HKB.out.at_ (i := 0) (u := .int .i64 kx) rfl
      have o1 := HKB.out.at_ (i := 1) (u := .int .i64 ky) rfl
      have o2 := HKB.out.at_ (i := 2) (u := .slice As ls.length cs) rfl
      clear HS HRS HWB
      by_cases hk1 : kx = 2
      · have hb1 : (kx == 2) = true := by simp [hk1]
        clear hk1
        go_wp2_with fail
        generalize wr.alloc (.cells #[.int .i64 kx, .int .i64 ky, .slice As ls.length cs] 44) = wb at *
        clear x0 x1 x2
        have HPUT := hide (drop_any w.heap.size g most L ky wb HSB.out.buf HBY.out.1 HBY.out.2)
        unfold ptr at HPUT
        refine HPUT.out.mono ?_
        intro e w3 hp
        obtain ⟨⟨v3, rfl⟩, hf3, L3, hb3⟩ := hp.any
        have HS3 := hide (HSB.out.fr hf3 hb3)
        clear hp hf3 hb3 o0 o1 o2
        go_wp2_with fail
        go_roundw
        case rel => exact ⟨j + 1, _, by omega, by go_num, HS3⟩
        case measure => simp [intOf]; omega
      have hb1 : (kx == 2) = false := by simp [hk1]
      clear hk1
      by_cases hk2 : kx = 4
      · have hb2 : (kx == 4) = true := by simp [hk2]
        clear hk2
        go_wp2_with fail
        generalize wr.alloc (.cells #[.int .i64 kx, .int .i64 ky, .slice As ls.length cs] 44) = wb at *
        clear x0 x1 x2
        have HPUT := hide (drain_any w.heap.size g most L ky wb HSB.out.buf)
        unfold ptr at HPUT
        refine HPUT.out.mono ?_
        rintro e w3 ⟨v3, rfl, -, hb3, hf3⟩
        have HS3 := hide (HSB.out.fr hf3 hb3)
        clear hf3 hb3 o0 o1 o2
        go_wp2_with fail
        go_roundw
        case rel => exact ⟨j + 1, _, by omega, by go_num, HS3⟩
        case measure => simp [intOf]; omega
      have hb2 : (kx == 4) = false := by simp [hk2]
      clear hk2
      go_wp2_with fail
      generalize wr.alloc (.cells #[.int .i64 kx, .int .i64 ky, .slice As ls.length cs] 44) = wb at *
      clear x0 x1 x2
      have HPUT := hide (put_any w.heap.size g most L ky ls As ls.length cs wb HSB.out.buf rfl HLS.out HDB.out HBY.out.1 HBY.out.2)
      unfold ptr at HPUT
      refine HPUT.out.mono ?_
      intro e w3 hp
      obtain ⟨⟨v3, rfl⟩, hf3, L3, hb3⟩ := hp.any
      have HS3 := hide (HSB.out.fr hf3 hb3)
      clear hp hf3 hb3 o0 o1 o2
      go_wp2_with fail
      go_roundw
      case rel => exact ⟨j + 1, _, by omega, by go_num, HS3⟩
      case measure => simp [intOf]; omega
    · have hd1 : decide ((j : Int) < (n : Int)) = false := by simp; omega
      clear HNEW ST
      have HLE := hide HS.out.le
      have HGET := hide (get_any w.heap.size g most L lba wr HS.out.buf HLB.out.1 HLB.out.2)
      have HLEN := hide (len_any w.heap.size g most L wr HS.out.buf)
      have dne : ((L.length : Int) == (L.length : Int)) = true := by simp
      unfold ptr at HGET HLEN
      by_cases hneg : lba < 0
      · have d2 : decide (lba < 0) = true := decide_eq_true hneg
        have HNEG := hide hneg
        clear hneg
        go_wp2_with fail
        refine HLEN.out.mono ?_
        rintro e w5 ⟨rfl, rfl⟩
        go_wp2_with fail
        refine HGET.out.mono ?_
        rintro e w6 ⟨hb6, ⟨-, rfl⟩ | ⟨h0, -⟩ | ⟨h0, -⟩⟩
        · have HS6 := hide (HS.out.below hb6)
          have HB6 := hide hb6
          clear hb6
          unfold errV
          go_wp2_with fail
          have HPUT := hide (put_any w.heap.size g most L lba ld Ad nd cd w6 HS6.out.buf HND.out HMD.out (HRD.out.below HS6.out.low) HLB.out.1 HLB.out.2)
          unfold ptr at HPUT
          refine HPUT.out.mono ?_
          intro e w7 hp
          obtain ⟨rfl, hf7, hb7⟩ := hp.not_ (k := 1) (addCode_neg HNEG.out) (by decide)
          have HS7 := hide (HS6.out.fr hf7 hb7)
          clear hp hf7 hb7
          unfold errV
          go_wp2_with fail
          have HLEN7 := hide (len_any w.heap.size g most L w7 HS7.out.buf)
          unfold ptr at HLEN7
          refine HLEN7.out.mono ?_
          rintro e w8 ⟨rfl, rfl⟩
          go_wp2_with fail
          refine (error_some 1 3 _ (HERR.out.below HS7.out.low (Nat.le_refl _)) false (by decide)).mono ?_
          rintro e w9 ⟨rfl, hb9⟩
          go_wp2_with fail
          go_ret
          exact ⟨rfl, (HS7.out.below hb9).low⟩
        · exact absurd HNEG.out (by omega)
        · exact absurd HNEG.out (by omega)
      have d2 : decide (lba < 0) = false := decide_eq_false hneg
      have HNEG := hide (Int.not_lt.1 hneg)
      clear hneg
      by_cases hfull : lk L lba = none ∧ (L.length : Int) = most
      · have dmo : ((L.length : Int) == most) = true := by simp [hfull.2]
        have HFU := hide hfull
        clear hfull
        go_wp2_with fail
        refine HLEN.out.mono ?_
        rintro e w5 ⟨rfl, rfl⟩
        go_wp2_with fail
        refine HGET.out.mono ?_
        rintro e w6 ⟨hb6, ⟨h0, -⟩ | ⟨-, -, rfl⟩ | ⟨-, x, -, -, hx, -⟩⟩
        · exact absurd h0 (Int.not_lt.2 HNEG.out)
        · have HS6 := hide (HS.out.below hb6)
          clear hb6
          unfold errV
          go_wp2_with fail
          have HPUT := hide (put_any w.heap.size g most L lba ld Ad nd cd w6 HS6.out.buf HND.out HMD.out (HRD.out.below HS6.out.low) HLB.out.1 HLB.out.2)
          unfold ptr at HPUT
          refine HPUT.out.mono ?_
          intro e w7 hp
          obtain ⟨rfl, hf7, hb7⟩ := hp.not_ (k := 3) (addCode_full (Int.not_lt.2 HNEG.out) HFU.out.1 HFU.out.2) (by decide)
          have HS7 := hide (HS6.out.fr hf7 hb7)
          clear hp hf7 hb7
          unfold errV
          go_wp2_with fail
          have HLEN7 := hide (len_any w.heap.size g most L w7 HS7.out.buf)
          unfold ptr at HLEN7
          refine HLEN7.out.mono ?_
          rintro e w8 ⟨rfl, rfl⟩
          go_wp2_with fail
          refine (error_some 3 3 _ (HERR.out.below HS7.out.low (Nat.le_refl _)) true (by decide)).mono ?_
          rintro e w9 ⟨rfl, hb9⟩
          go_wp2_with fail
          go_ret
          exact ⟨rfl, (HS7.out.below hb9).low⟩
        · rw [HFU.out.1] at hx
          cases hx
      have HC0 : Hid (addCode most L (lba, false, ld) = 0) := hide (addCode_ok (Int.not_lt.2 HNEG.out) hfull)
      clear hfull
      go_wp2_with fail
      refine HLEN.out.mono ?_
      rintro e w5 ⟨rfl, rfl⟩
      go_wp2_with fail
      refine HGET.out.mono ?_
      intro e w6 hp6
      obtain ⟨⟨a6, b6, c6, rfl⟩, hb6⟩ := hp6.ret
      have HS6 := hide (HS.out.below hb6)
      clear hb6 hp6
      go_wp2_with fail
      have HPUT := hide (put_any w.heap.size g most L lba ld Ad nd cd w6 HS6.out.buf HND.out HMD.out (HRD.out.below HS6.out.low) HLB.out.1 HLB.out.2)
      unfold ptr at HPUT
      refine HPUT.out.mono ?_
      intro e w7 hp
      obtain ⟨rfl, hf7, hb7⟩ := hp.take HC0.out
      have HS7 := hide (HS6.out.fr hf7 hb7)
      have HAL : Hid (lk (add L (lba, false, ld)) lba = some (lba, false, ld)) := hide (by rw [add_look, if_pos rfl])
      clear hp hf7 hb7
      obtain ⟨L2, hL2⟩ : ∃ L2, L2 = add L (lba, false, ld) := ⟨_, rfl⟩
      rw [← hL2] at HS7 HAL
      clear hL2
      go_wp2_with fail
      have HGET8 := hide (get_any w.heap.size g most L2 lba w7 HS7.out.buf HLB.out.1 HLB.out.2)
      unfold ptr at HGET8
      refine HGET8.out.mono ?_
      intro e w8 hp8
      obtain ⟨⟨D8, c8, rfl, hd8⟩, hb8⟩ := hp8.hit HNEG.out HAL.out
      have HS8 := hide (HS7.out.below hb8)
      have HD8 := hide (hd8 0)
      clear hb8 hp8 hd8
      go_wp2_with fail
      refine (same_any D8 Ad ld ld ld.length nd c8 cd w8 rfl HND.out (by have := HMD.out; have := HND.out; omega) HD8.out.2.2.2 (HRD.out.below HS8.out.low) true (by simp)).mono ?_
      rintro e w9 ⟨rfl, d9, rfl⟩
      go_wp2_with fail
      have HS9 : Hid (SB w (w8.drewN d9) g most L2) := hide (HS8.out.below (below_drewN (Below.refl _ _) d9))
      generalize w8.drewN d9 = w9 at *
      have HDROP := hide (drop_any w.heap.size g most L2 lba w9 HS9.out.buf HLB.out.1 HLB.out.2)
      unfold ptr at HDROP
      refine HDROP.out.mono ?_
      intro e w10 hp
      obtain ⟨rfl, hf10, hb10⟩ := hp.take (addCode_ok (Int.not_lt.2 HNEG.out) (fun h => by have := HAL.out; rw [h.1] at this; cases this))
      have HS10 := hide (HS9.out.fr hf10 hb10)
      have HAL3 : Hid (lk (add L2 (lba, true, [])) lba = some (lba, true, [])) := hide (by rw [add_look, if_pos rfl])
      have HLAST : Hid (∃ K, add L2 (lba, true, []) = K ++ [(lba, true, [])]) := hide ⟨_, rfl⟩
      clear hp hf10 hb10
      obtain ⟨L3, hL3⟩ : ∃ L3, L3 = add L2 (lba, true, []) := ⟨_, rfl⟩
      rw [← hL3] at HS10 HAL3 HLAST
      clear hL3
      go_wp2_with fail
      have HGET11 := hide (get_any w.heap.size g most L3 lba w10 HS10.out.buf HLB.out.1 HLB.out.2)
      unfold ptr at HGET11
      refine HGET11.out.mono ?_
      intro e w11 hp11
      obtain ⟨⟨D11, c11, rfl, hd11⟩, hb11⟩ := hp11.hit HNEG.out HAL3.out
      have HS11 := hide (HS10.out.below hb11)
      clear hb11 hp11 hd11
      go_wp2_with fail
      have HDR := hide (drain_any w.heap.size g most L3 most w11 HS11.out.buf)
      have hq : min most.toNat L3.length = L3.length := by
        have h1 := HS11.out.le.1
        omega
      rw [hq, List.take_length] at HDR
      have h16 : L3.length ≤ 16 := by
        have h1 := HS11.out.le.1
        have h2 := HS11.out.le.2.1
        omega
      obtain ⟨K, hK⟩ := HLAST.out
      have hlen : L3.length = K.length + 1 := by rw [hK, List.length_append]; rfl
      have HKX : Hid (L3[K.length]? = some (lba, true, [])) := hide (by rw [hK, List.getElem?_append_right (Nat.le_refl _)]; simp)
      obtain ⟨kk, hkk⟩ : ∃ kk, kk = K.length := ⟨_, rfl⟩
      have HKK := hide hkk
      rw [← hkk] at hlen HKX
      have HLEN3 := hide hlen
      have hk15 : kk ≤ 15 := by omega
      clear hq hK hlen h16 hkk
      unfold ptr at HDR
      refine HDR.out.mono ?_
      rintro e w12 ⟨v12, rfl, hr12, hb12, hf12⟩
      obtain ⟨g12, c12, A12, ca12, rfl, y0, y1, -, -, -, -⟩ := hr12.get HKX.out
      have HS12 := hide (HS11.out.fr hf12 hb12)
      rw [HLEN3.out]
      have hpos : decide (((kk + 1 : Nat) : Int) > 0) = true := by simp
      have hbb : (lba == lba) = true := by simp
      simp only at y0 y1
      clear hr12 hb12 hf12
      go_wp2_with fail
      go_ret
      exact ⟨rfl, HS12.out.low⟩
end Go.Proofs.YtndhmdengadmjaaDoor.BufL
