/- The walk of granarylaw1.FrameTorn: true, and nothing that was there is written. -/
import Derived.Test.YtmnhgpkbdiobkaaOpenPlain
set_option linter.unusedVariables false
namespace Go.Proofs.Ytmnhgpkbdiobkaa.TornW
open Go.RowKit PutW CrcW Fram Crc PackW FrameW GetW ApartW OpenW

/-- The first k bytes, then blank ones up to j. -/
def tornL (l : List UInt8) (k j : Nat) : List UInt8 := l.take k ++ List.replicate (j - k) 255
theorem tornL_length {l : List UInt8} {k j : Nat} (hk : k ≤ l.length) (hj : k ≤ j) : (tornL l k j).length = j := by simp [tornL]; omega
theorem tornL_succ {l : List UInt8} {k j : Nat} (hj : k ≤ j) : tornL l k (j + 1) = tornL l k j ++ [255] := by
  unfold tornL
  rw [show j + 1 - k = (j - k) + 1 by omega, List.replicate_succ', List.append_assoc]
theorem tornL_none (l : List UInt8) (n : Nat) : (tornL l 0 n).count 255 = n := by simp [tornL]
theorem tornL_bad {l : List UInt8} {k n : Nat} (h : k < n) (hn : n = l.length) : ¬ OpenW.Good (tornL l k n) n := by
  intro hg
  have h2 := (good_ends hg).2.2.2.2
  have e : (tornL l k n).getD (n - 1) 0 = 255 := by
    unfold tornL
    rw [List.getD_eq_getElem?_getD, List.getElem?_append_right (by simp; omega), List.getElem?_replicate, if_pos (by simp; omega)]
    rfl
  rw [e] at h2
  exact absurd h2 (by decide)
theorem tornL_some {l : List UInt8} {k n : Nat} (h : k < n) (h0 : 0 < k) (hn : n = l.length) (hl : l.getD 0 0 = 165) : (tornL l k n).count 255 ≠ n := by
  intro hc
  have hlen := tornL_length (l := l) (k := k) (j := n) (by omega) (by omega)
  have hall := List.count_eq_length.1 (hc.trans hlen.symm) 165 (by
    unfold tornL
    refine List.mem_append_left _ ?_
    rw [← hl, List.getD_eq_getElem?_getD, List.getElem?_eq_getElem (by omega)]
    refine List.mem_take_iff_getElem.2 ⟨0, by omega, rfl⟩)
  exact absurd hall (by decide)

attribute [local irreducible] pack kindOf lbaOf seqOf seqI longOf dataOf tornL

set_option maxRecDepth 100000 in
set_option maxHeartbeats 2000000 in
theorem law (w : World) (n : Int) (t1 : -9223372036854775808 ≤ n) (t2 : n ≤ 9223372036854775807) (k1 l1 s1 : Int) (A : Option Addr) (a : List UInt8) (m ca : Nat) (hm : m = a.length) (ra : Rd w A (u8v a)) (at_ : Int) (t3 : -9223372036854775808 ≤ at_) (t4 : at_ ≤ 9223372036854775807) :
    Calls Try.prog 11 #[.int .i64 n, frV k1 l1 s1 A m ca, .int .i64 at_] w fun e w' => e = .returned (.bool true) ∧ Below w.heap.size w w' := by
  obtain ⟨i0, hi0, hz0, hz1, hz2⟩ := info_parts u8_info
  have hb0 : Below w.heap.size w (w.alloc (.cells #[.int .i64 k1, .int .i64 l1, .int .i64 s1, .slice A m ca] 28)) := (Below.refl _ _).alloc (Nat.le_refl _) _
  have hF : Bk (w.alloc (.cells #[.int .i64 k1, .int .i64 l1, .int .i64 s1, .slice A m ca] 28)) w.heap.size 28 #[.int .i64 k1, .int .i64 l1, .int .i64 s1, .slice A m ca] := Bk.new _ _ _
  have HM := hide hm
  clear hm
  unfold frV
  go_enter Try.func11, Try.ntmps11
  go_wp2_with fail
  generalize w.alloc (.cells #[.int .i64 k1, .int .i64 l1, .int .i64 s1, .slice A m ca] 28) = w0 at hb0 hF ⊢
  obtain ⟨f, hf⟩ : ∃ f, f = w.heap.size := ⟨_, rfl⟩
  rw [← hf] at hF
  rw [← hf]
  have hfl := hF.lt
  have HB := hide hf
  clear hf
  refine (frameFact_any w0).mono ?_
  rintro e w1 ⟨rfl, hb1⟩
  have hb01 := hb0.trans (hb1.mono hb0.size)
  have hF1 := hF.below hb1 hfl
  clear hF hfl hb1 hb0
  have c0 := hF1.at_ (i := 0) (u := .int .i64 k1) rfl
  have c1 := hF1.at_ (i := 1) (u := .int .i64 l1) rfl
  have c2 := hF1.at_ (i := 2) (u := .int .i64 s1) rfl
  have c3 := hF1.at_ (i := 3) (u := .slice A m ca) rfl
  by_cases hfit : Fits n m k1 l1 s1 ∧ (m : Int) ≤ n - 21
  · obtain ⟨hfi, o9⟩ := hfit
    have hfi' := hfi
    obtain ⟨o1, o2, o3, o4, o5, o6, o7, o8⟩ := hfi'
    obtain ⟨n, rfl⟩ := Int.eq_ofNat_of_zero_le (show 0 ≤ n by omega)
    have hn4 : n ≤ 4096 := by omega
    go_wp2_with fail
    refine (pack_ok n k1 l1 s1 A a m ca _ (by omega) (by omega) o3 o4 o5 o6 o7 o8 HM.out (by omega) (ra.below hb01)).mono ?_
    rintro e w2 ⟨v, rfl, ho, hb2⟩
    obtain ⟨C, e1, rfl, he1, -, hr1, -, -⟩ := own_form ho
    have HPL := hide (pack_length n k1.toNat l1.toNat s1.toNat a (by rw [← HM.out]; omega)).symm
    have HFIRST := hide (good_pack n k1 l1 s1 a (by rw [← HM.out]; exact hfi) (by rw [← HM.out]; omega)).2.1
    clear ho c0 c1 c2 c3
    have hb02 := hb01.trans (hb2.mono hb01.size)
    clear hF1 hb01 hb2
    have hz : ((n : Int) == 0) = false := by simp; omega
    obtain ⟨l, hl⟩ : ∃ l, l = pack n k1.toNat l1.toNat s1.toNat a := ⟨_, rfl⟩
    rw [← hl] at HPL HFIRST hr1
    clear hl
    go_wp2_with fail
    refine (pick_any at_ n _ rfl (by omega) (by omega) t3 t4 _).mono ?_
    rintro e w3 ⟨rfl, rfl⟩
    have hk := pickN_lt at_ n (by omega)
    generalize pickN at_ n = k at hk
    have hke : (k : Int) ≤ (e1 : Int) := by omega
    obtain ⟨B, hB⟩ : ∃ B, B = w2.heap.size := ⟨_, rfl⟩
    have HBB := hide hB
    have hb2B : Below B w2 w2 := Below.refl _ _
    have hBs : B ≤ w2.heap.size := Nat.le_of_eq hB
    have ho0 := own_empty w2
    rw [← hB] at ho0
    clear hB
    go_wp2_with (first
      | (at_builtin
         refine wpList_app _ rfl _ _ rfl B _ 0 [] rfl (by rw [HBB.out]; exact own_empty w2) C k e1 (l.take k) rfl (by have := HPL.out; simp; omega) (by have := (hr1.take k).alloc (.cells #[] 5); simpa [u8v] using this) (by omega) (by simp; omega) ?_
         intro A4 c4 w4 hc4 ho4 hb4))
    have hb4' : Below B w2 w4 := (hb2B.alloc hBs _).trans hb4
    have hs4 := hb4'.size
    clear hb4 ho0 hr1
    have H0 : Hid ([] ++ l.take k = tornL l k k) := hide (by unfold tornL; simp)
    rw [H0.out] at ho4
    go_loopw [11] (fun q wr => ∃ j : Nat, k ≤ j ∧ j ≤ n ∧ wr.ownsRow B 5 1 q j (u8v (tornL l k j)) ∧ Below B w2 wr ∧ B ≤ wr.heap.size) (fun q _ => n - (match q with | .slice _ j _ => j | _ => 0))
    case atStart => exact ⟨k, Nat.le_refl _, by omega, by simpa using ho4, hb4', by omega⟩
    case round =>
      clear ho4 hb4' hs4 hc4
      obtain ⟨j, hkj, hjn, hown, hb, hbs⟩ := hrel
      obtain ⟨D, c5, rfl, hc5, -, hr5, -, -⟩ := own_form hown
      by_cases hlt : j < n
      · have hd : decide ((j : Int) < (n : Int)) = true := by simp; omega
        have HS : Hid (u8v (tornL l k (j + 1)) = u8v (tornL l k j) ++ [.int .u8 255]) := by rw [tornL_succ hkj, u8v_append]; exact hide rfl
        generalize u8v (tornL l k j) = cs at hown HS
        clear hr5
        go_wp2_with (first
          | (at_builtin
             refine wpList_append_rd _ rfl (.tmp 46) (.tmp 47) 26 rfl B 5 i0 _ 1 Try.underlying26 hi0 hz0 hz1 hz2 rfl _ j cs rfl (by exact hown.alloc _) _ 1 1 [.int .u8 255] rfl rfl (Rd.one _ _ _) ?_ ?_ ?_ ?_ ?_
             · intro u hu; simp at hu; subst hu; rfl
             · simp only [maxLen]; omega
             · omega
             · simp; omega
             intro v' w5 hown5 hg5
             have hb5 := below_own (hb.alloc hbs _) (hown.alloc _) hg5 (by simp; omega) (Nat.le_refl _)
             have hs5 := hg5.size
             simp at hs5
             obtain ⟨D6, c6, rfl, hc6, -, -, -, -⟩ := own_form hown5))
        go_roundw
        case rel => exact ⟨j + 1, by omega, by omega, by rw [HS.out]; exact hown5, hb5, by omega⟩
        case measure => simp; omega
      · obtain rfl : j = n := by omega
        have hcap : c5 ≤ 9223372036854775807 := by
          obtain ⟨_, cap, _, hv, _, _, _, _, hm2, _, _⟩ := own_block hown (by omega)
          injection hv with _ _ hv
          subst hv
          exact hm2
        have HTL := hide (tornL_length (l := l) (k := k) (j := j) (by have := HPL.out; omega) hkj).symm
        have HBAD : Hid (¬ OpenW.Good (tornL l k j) j) := hide (tornL_bad hk HPL.out)
        go_wp2_with fail
        refine (open_any D _ j c5 _ HTL.out hc5 hcap hr5).mono ?_
        rintro e w6 ⟨hb6, h⟩
        obtain ⟨-, st, rfl, hst⟩ := h.resolve_right fun h => HBAD.out h.1
        have hbF := hb02.trans (((hb.trans (hb6.mono hbs)).mono (by have := HBB.out; omega)).mono hb02.size)
        have hbF1 := hbF.alloc hbF.size (.cells #[.int .i64 0, .int .i64 0, .int .i64 0, .slice none 0 0] 28)
        unfold noFrame frV
        rcases hst with ⟨_, hc, rfl⟩ | ⟨hc, rfl⟩
        · rcases Nat.eq_zero_or_pos k with h0 | h0
          · subst h0
            clear hc
            go_wp2_with fail
            go_ret
            exact ⟨rfl, hbF1⟩
          · exact absurd hc (tornL_some hk h0 HPL.out HFIRST.out)
        · rcases Nat.eq_zero_or_pos k with h0 | h0
          · subst h0
            exact absurd ⟨by omega, tornL_none l j⟩ hc
          · have hk0 : ((k : Int) == 0) = false := by simp; omega
            clear hc
            go_wp2_with fail
            go_ret
            exact ⟨rfl, hbF1⟩
  · have HF1 := hide hfit
    clear hfit
    go_wp2_with fail
    refine (pack_bad n k1 l1 s1 A m ca _ t1 t2 HF1.out).mono ?_
    rintro e w2 ⟨z, rfl, hb2⟩
    go_wp2_with fail
    go_ret
    exact ⟨rfl, hb01.trans (hb2.mono hb01.size)⟩
end Go.Proofs.Ytmnhgpkbdiobkaa.TornW
