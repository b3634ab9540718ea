/- The walk of granaryref1.PackOf. -/
import Derived.Test.YtmnhgpkbdiobkaaDoorRefFrame
set_option linter.unusedVariables false
namespace Go.Proofs.YtmnhgpkbdiobkaaDoor.RefW
open Go.RowKit Fram Crc CrcW PackW

attribute [local irreducible] pack headP restP lowB

theorem headP_def (k lba seq len : Nat) : (([165, UInt8.ofNat k] ++ lowB lba 4) ++ lowB seq 8) ++ lowB len 2 = headP k lba seq len := by unfold headP; rfl

set_option maxRecDepth 100000 in
set_option maxHeartbeats 4000000 in
theorem packOf_any (n : Nat) (k lba seq : Int) (A : Option Addr) (d : List UInt8) (m c : Nat) (w : World) (h24 : 24 ≤ n) (hmax : n ≤ 4096) (hk1 : 1 ≤ k) (hk3 : k ≤ 3) (hl0 : 0 ≤ lba) (hl : lba ≤ 4294967295) (hs0 : 0 ≤ seq) (hs : seq ≤ 4611686018427387904) (hm : m = d.length) (hmn : m + 21 ≤ n) (hr : Rd w A (u8v d)) :
    Calls Tryd.prog 9 #[.int .i64 n, frV k lba seq A m c] w fun e w' => ∃ B c', e = .returned (.slice B n c') ∧ n ≤ c' ∧ w'.ownsRow w.heap.size 5 1 (.slice B n c') n (u8v (pack n k.toNat lba.toNat seq.toNat d)) ∧ Below w.heap.size w w' := by
  obtain ⟨i0, hi0, hz0, hz1, hz2⟩ := info_parts u8_info
  have HM := hide hm
  clear hm
  have hb0 : Below w.heap.size w (w.alloc (.cells #[.int .i64 k, .int .i64 lba, .int .i64 seq, .slice A m c] 24)) := (Below.refl _ _).alloc (Nat.le_refl _) _
  have hF0 : Bk (w.alloc (.cells #[.int .i64 k, .int .i64 lba, .int .i64 seq, .slice A m c] 24)) w.heap.size 24 #[.int .i64 k, .int .i64 lba, .int .i64 seq, .slice A m c] := Bk.new _ _ _
  have hz0s : (w.alloc (.cells #[.int .i64 k, .int .i64 lba, .int .i64 seq, .slice A m c] 24)).heap.size = w.heap.size + 1 := by simp
  unfold frV
  go_enter Tryd.func9, Tryd.ntmps9
  go_wp2_with fail
  have hrA := hr.below hb0
  generalize w.alloc (.cells #[.int .i64 k, .int .i64 lba, .int .i64 seq, .slice A m c] 24) = w0 at hb0 hF0 hz0s hrA ⊢
  obtain ⟨f, hf⟩ : ∃ f, f = w.heap.size := ⟨_, rfl⟩
  rw [← hf] at hF0 hz0s
  rw [← hf]
  have HB := hide hf
  clear hf
  have ho1 := own_new w0 (f + 1) 5 #[.int .u8 165, .int .u8 k] 2 (by omega) (by simp [maxLen]) rfl
  rw [hz0s] at ho1
  have e2 : (#[Value.int .u8 165, .int .u8 k] : Array Value).toList = u8v [165, UInt8.ofNat k.toNat] := two_bytes k (by omega) (by omega)
  rw [e2] at ho1
  have hF1 := hF0.alloc (.cells #[.int .u8 165, .int .u8 k] 5)
  have hb1 : Below (f + 1) w0 (w0.alloc (.cells #[.int .u8 165, .int .u8 k] 5)) := (Below.refl _ _).alloc (by omega) _
  generalize w0.alloc (.cells #[.int .u8 165, .int .u8 k] 5) = w1 at ho1 hF1 hb1 ⊢
  have hs1 := hb1.size
  rw [hz0s] at hs1
  have c1 := hF1.at_ (i := 1) (u := .int .i64 lba) rfl
  clear e2 hF1
  have HF := hide hF0
  have hff : f < f + 1 := Nat.lt_succ_self f
  clear hF0
  refine (lowFirst_int lba 4 _ _ rfl (by omega) hl0 (by omega)).mono ?_
  rintro e w2 ⟨B2, k2, rfl, hk2, ho2, hb2'⟩
  have ho1' := own_below ho1 hb2' (Nat.le_refl _)
  have hr2 := own_rd ho2
  have hb2 := hb1.trans (hb2'.mono hs1)
  have hs2 : f + 1 ≤ w2.heap.size := by have := hb2.size; omega
  have HL2 := hide (show 4 = (lowB lba.toNat 4).length by rw [lowB_length])
  have HF2 := hide (fun w' (h : Below (f + 1) w0 w') => (HF.out.below h hff).at_ (i := 2) (u := .int .i64 seq) rfl)
  have HF3 := hide (fun w' (h : Below (f + 1) w0 w') => (HF.out.below h hff).at_ (i := 3) (u := .slice A m c) rfl)
  clear c1 ho1 ho2 hb2' hb1 hs1
  go_wp2_with (first
    | (at_builtin
       refine wpList_app _ rfl (.tmp 18) (.tmp 19) rfl (f + 1) _ 2 _ rfl (by exact ho1') B2 4 k2 _ rfl HL2.out (by exact hr2) (by omega) hs2 ?_
       intro B3 k3 w3 hk3 ho3 hb3'
       have hb3 := hb2.trans hb3'
       have hs3 : f + 1 ≤ w3.heap.size := by have := hb3.size; omega
       have c2 := HF2.out _ hb3))
  clear hr2 ho1'
  refine (lowFirst_int seq 8 _ _ rfl (by omega) hs0 (by omega)).mono ?_
  rintro e w4 ⟨B4, k4, rfl, hk4, ho4, hb4'⟩
  have ho3' := own_below ho3 hb4' (Nat.le_refl _)
  have hr4 := own_rd ho4
  have hb4 := hb3.trans (hb4'.mono hs3)
  have hs4 : f + 1 ≤ w4.heap.size := by have := hb4.size; omega
  have HL4 := hide (show 8 = (lowB seq.toNat 8).length by rw [lowB_length])
  clear c2 ho3 ho4 hb4' hb3 hb3' hb2 hs3
  go_wp2_with (first
    | (at_builtin
       refine wpList_app _ rfl (.tmp 24) (.tmp 25) rfl (f + 1) _ (2 + 4) _ rfl (by exact ho3') B4 8 k4 _ rfl HL4.out (by exact hr4) (by omega) hs4 ?_
       intro B5 k5 w5 hk5 ho5 hb5'
       have hb5 := hb4.trans hb5'
       have hs5 : f + 1 ≤ w5.heap.size := by have := hb5.size; omega
       have c3 := HF3.out _ hb5))
  clear hr4 ho3'
  refine (lowFirst_int (m : Int) 2 _ _ rfl (by omega) (by omega) (by omega)).mono ?_
  rintro e w6 ⟨B6, k6, rfl, hk6, ho6, hb6'⟩
  have ho5' := own_below ho5 hb6' (Nat.le_refl _)
  have hr6 := own_rd ho6
  have hb6 := hb5.trans (hb6'.mono hs5)
  have hs6 : f + 1 ≤ w6.heap.size := by have := hb6.size; omega
  have HL6 := hide (show 2 = (lowB (m : Int).toNat 2).length by rw [lowB_length])
  clear c3 ho5 ho6 hb6' hb5 hb5' hb4 hs5
  have hrB := hr
  go_wp2_with (first
    | (at_builtin
       refine wpList_app _ rfl (.tmp 31) (.tmp 32) rfl (f + 1) _ (2 + 4 + 8) _ rfl (by exact ho5') B6 2 k6 _ rfl HL6.out (by exact hr6) (by omega) hs6 ?_
       intro B7 k7 w7 hk7 ho7 hb7'
       have hb7 := hb6.trans hb7'
       have hs7 : f + 1 ≤ w7.heap.size := by have := hb7.size; omega
       have c3 := HF3.out _ hb7
       have HHD : Hid (([165, UInt8.ofNat k.toNat] ++ lowB lba.toNat 4) ++ lowB seq.toNat 8 ++ lowB (m : Int).toNat 2 = headP k.toNat lba.toNat seq.toNat d.length) := hide (by rw [Int.toNat_natCast, HM.out]; exact headP_def _ _ _ _)
       rw [HHD.out] at ho7
       have HLT7 := hide (own_form ho7).choose_spec.choose_spec.2.2.2.2.2
       have hrd7 : Rd w7 A (u8v d) := hrA.keep (fun j hj => hb7.block j (by rw [hz0s] at hj; exact hj))
       have c3b := HF3.out (w7.alloc (.cells #[] 5)) (hb7.alloc hs7 _)
       clear hr6 ho5')
    | (at_builtin
       refine wpList_app _ rfl (.tmp 34) (.tmp 36) rfl w7.heap.size _ 0 [] rfl (by exact own_empty w7) A m c d rfl HM.out (by exact hrd7.alloc _) (by omega) (by simp) ?_
       intro B8 k8 w8 hk8 ho8 hb8'
       have hb8 : Below w7.heap.size w7 w8 := ((Below.refl _ w7).alloc (Nat.le_refl _) _).trans hb8'))
  have H0 : Hid (([] : List UInt8) ++ d = restP d m) := hide (by unfold restP; rw [HM.out]; simp)
  rw [H0.out] at ho8
  have hs7' := hb8.size
  have HDL := hide (show d.length ≤ m by rw [HM.out]; exact Nat.le_refl _)
  clear hrd7 c3 c3b hb8' hk8
  go_loopw [7] (fun q wr => ∃ j : Nat, m ≤ j ∧ j + 21 ≤ n ∧ wr.ownsRow w7.heap.size 5 1 q j (u8v (restP d j)) ∧ Below w7.heap.size w7 wr) (fun q _ => n - (match q with | .slice _ j _ => j | _ => 0))
  case atStart => exact ⟨m, Nat.le_refl _, hmn, by simpa using ho8, hb8⟩
  case round =>
    clear ho8 hb8 hs7'
    obtain ⟨j, hmj, hjn, hown, hb⟩ := hrel
    have hbs := hb.size
    obtain ⟨D, c5, rfl, hc5, -, hr5, -, -⟩ := own_form hown
    by_cases hlt : j + 21 < n
    · have hd : (j : Int) < (n : Int) - 21 := by omega
      have HS : Hid (u8v (restP d (j + 1)) = u8v (restP d j) ++ [.int .u8 0]) := by rw [restP_succ (by have := HDL.out; omega), u8v_append]; exact hide rfl
      generalize u8v (restP d j) = cs at hown HS
      clear hr5
      go_wp2_with (first
        | (at_builtin
           refine wpList_append_rd _ rfl (.tmp 43) (.tmp 44) 22 rfl w7.heap.size 5 i0 _ 1 Tryd.underlying22 hi0 hz0 hz1 hz2 rfl _ j cs rfl (by exact hown.alloc _) _ 1 1 [.int .u8 0] rfl rfl (Rd.one _ _ _) ?_ ?_ ?_ ?_ ?_
           · intro u hu; simp at hu; subst hu; rfl
           · simp only [maxLen]; omega
           · omega
           · simp; omega
           intro v' w9 hown9 hg9
           have hb9 := below_own (hb.alloc hbs _) (hown.alloc _) hg9 (by simp; omega) (Nat.le_refl _)
           obtain ⟨D6, c6, rfl, hc6, -, -, -, -⟩ := own_form hown9))
      go_roundw
      case rel => exact ⟨j + 1, by omega, by omega, by rw [HS.out]; exact hown9, hb9⟩
      case measure => simp; omega
    · have hd : ¬ (j : Int) < (n : Int) - 21 := by omega
      have HJ := hide (show j = n - 21 by omega)
      have HRL := hide (restP_length (d := d) (j := j) (by have := HDL.out; omega))
      have HR : Hid (u8v (restP d j ++ [90]) = u8v (restP d j) ++ [.int .u8 90]) := by rw [u8v_append]; exact hide rfl
      clear hr5 hlt
      go_wp2_with (first
        | (at_builtin
           refine wpList_append_rd _ rfl (.tmp 46) (.tmp 47) 22 rfl w7.heap.size 5 i0 _ 1 Tryd.underlying22 hi0 hz0 hz1 hz2 rfl _ j _ rfl (by exact hown.alloc _) _ 1 1 [.int .u8 90] rfl rfl (Rd.one _ _ _) ?_ ?_ ?_ ?_ ?_
           · intro u hu; simp at hu; subst hu; rfl
           · simp only [maxLen]; omega
           · omega
           · simp; omega
           intro vR w10 hoR hgR
           have hbR := below_own (hb.alloc hbs _) (hown.alloc _) hgR (by simp; omega) (Nat.le_refl _)
           rw [← HR.out] at hoR
           obtain ⟨BR, kR, rfl, hkR, -, hrR, -, -⟩ := own_form hoR
           have HRLT := hide (own_form hoR).choose_spec.choose_spec.2.2.2.2.2
           have hoH := own_below ho7 hbR (Nat.le_refl _)
           have hrH := own_rd hoH
           have HHL := hide (show 16 = (headP k.toNat lba.toNat seq.toNat d.length).length by rw [headP_length])
           have HRL2 := hide (show j + 1 = (restP d j ++ [90]).length by rw [List.length_append, HRL.out]; rfl)
           clear hown hgR hb)
        | (at_builtin
           refine wpList_app _ rfl (.tmp 49) (.tmp 50) rfl w10.heap.size _ 0 [] rfl (by exact own_empty w10) B7 16 k7 _ rfl HHL.out (by exact hrH.alloc _) (by omega) (by simp) ?_
           intro B11 k11 w11 hk11 ho11 hb11'
           have hb11 : Below w10.heap.size w10 w11 := ((Below.refl _ w10).alloc (Nat.le_refl _) _).trans hb11'
           have hs11 := hb11.size
           clear hb11')
        | (at_builtin
           refine wpList_app _ rfl (.tmp 52) (.tmp 53) rfl w10.heap.size _ (0 + 16) _ rfl (by exact ho11.alloc _) (some ⟨w11.heap.size, 0, none⟩) 4 4 [0, 0, 0, 0] rfl rfl (by exact Rd.new w11 _ _ #[.int .u8 0, .int .u8 0, .int .u8 0, .int .u8 0] (0, 0) _ rfl rfl) (by omega) (by simp; omega) ?_
           intro B12 k12 w12 hk12 ho12 hb12'
           have hb12 : Below w10.heap.size w10 w12 := (hb11.alloc hs11 _).trans hb12'
           have hs12 := hb12.size
           have hrR12 := hrR.below hb12
           clear hb12' ho11 hb11 hs11)
        | (at_builtin
           refine wpList_app _ rfl (.tmp 55) (.tmp 56) rfl w10.heap.size _ (0 + 16 + 4) _ rfl (by exact ho12) BR (j + 1) kR _ rfl HRL2.out (by exact hrR12) (by omega) hs12 ?_
           intro B14 k14 w14 hk14 ho14 hb14'
           have hb14 := hb12.trans hb14'
           have hs14 := hb14.size
           clear hb14' ho12 hb12 hs12 hrR12))
      obtain ⟨C, hC⟩ : ∃ C, C = crc ((headP k.toNat lba.toNat seq.toNat d.length ++ [0, 0, 0, 0]) ++ (restP d j ++ [90])) := ⟨_, rfl⟩
      have hCl := C.isLt
      have x4 : IntKind.i64.wrap (C.toNat : Int) = (C.toNat : Int) := by rw [IntKind.wrap_i64]; omega
      have HC := hide hC
      have HALL := hide (show 0 + 16 + 4 + (j + 1) = ((headP k.toNat lba.toNat seq.toNat d.length ++ [0, 0, 0, 0]) ++ (restP d j ++ [90])).length by rw [List.length_append, List.length_append, ← HHL.out, ← HRL2.out]; simp)
      rw [List.nil_append] at ho14
      clear hC
      refine (refCrc_any B14 _ _ k14 _ HALL.out (by omega) (own_rd ho14)).mono ?_
      rintro e w15 ⟨rfl, rfl⟩
      rw [← HC.out]
      clear ho14 hk14
      go_wp2_with fail
      refine (lowFirst_int (C.toNat : Int) 4 _ _ rfl (by omega) (by omega) (by omega)).mono ?_
      rintro e w16 ⟨B16, k16, rfl, hk16, ho16, hb16'⟩
      have hr16 := own_rd ho16
      have hb16 := hb14.trans (hb16'.mono hs14)
      have hs16 := hb16.size
      have hoH16 := own_below hoH hb16 (Nat.le_refl _)
      have hoR16 := own_below hoR hb16 (Nat.le_refl _)
      have HL16 := hide (show 4 = (lowB (C.toNat : Int).toNat 4).length by rw [lowB_length])
      have hb716 := hbR.trans (hb16.mono hbR.size)
      have hfb : Below (f + 1) w0 w16 := hb7.trans (hb716.mono hs7)
      have hsf : f + 1 ≤ w16.heap.size := by have := hfb.size; omega
      clear hoH hoR hrH hb16' hb14 hs14 hrR
      go_wp2_with (first
        | (at_builtin
           refine wpList_append_rd _ rfl (.tmp 63) (.tmp 64) 22 rfl (f + 1) 5 i0 _ 1 Tryd.underlying22 hi0 hz0 hz1 hz2 rfl _ 16 _ rfl (by exact hoH16) B16 4 k16 (u8v (lowB (C.toNat : Int).toNat 4)) rfl (by rw [u8v_length, ← HL16.out]) (by exact hr16) (u8v_one _) ?_ ?_ ?_ ?_
           · simp only [maxLen]; omega
           · omega
           · exact hsf
           intro vO w17 hoO hgO
           have hbO := below_own hfb hoH16 hgO hsf (Nat.le_refl _)
           have hoR17 : w17.ownsRow w7.heap.size 5 1 (.slice BR (j + 1) kR) (j + 1) (u8v (restP d j ++ [90])) := by
             refine hoR16.kept hgO ?_
             by_cases hnn : (Value.slice BR (j + 1) kR).ownBlock = none
             · exact .inl hnn
             · right
               intro e
               obtain ⟨g, hg⟩ := Option.ne_none_iff_exists'.1 hnn
               have h1 := (HRLT.out g hg).1
               have h2 := (HLT7.out g (e.symm.trans hg)).2
               omega
           rw [← u8v_append] at hoO
           have hrR17 := own_rd hoR17
           obtain ⟨BO, kO, rfl, hkO, -, -, -, -⟩ := own_form hoO
           have hsO : f + 1 ≤ w17.heap.size := by have := hbO.size; omega
           clear hoR16 hoR17)
        | (at_builtin
           refine wpList_app _ rfl (.tmp 66) (.tmp 67) rfl (f + 1) _ (16 + 4) _ rfl (by exact hoO) BR (j + 1) kR _ rfl HRL2.out (by exact hrR17) (by omega) hsO ?_
           intro B18 k18 w18 hk18 ho18 hb18'
           have hb18 := hbO.trans hb18'))
      go_ret
      have en : 16 + 4 + (j + 1) = n := by have := HJ.out; omega
      rw [en] at ho18 hk18
      have hP : headP k.toNat lba.toNat seq.toNat d.length ++ lowB ((C.toNat : Int)).toNat 4 ++ (restP d j ++ [90]) = pack n k.toNat lba.toNat seq.toNat d := by
        rw [pack_halves, HC.out, Int.toNat_natCast, HJ.out]
      rw [hP] at ho18
      refine ⟨B18, k18, ?_, hk18, own_base (base' := w.heap.size) ho18 (by have := HB.out; omega), ?_⟩
      · rw [show 20 + (j + 1) = n by omega]
        rfl
      · exact hb0.trans (hb18.mono (by have := HB.out; omega))
end Go.Proofs.YtmnhgpkbdiobkaaDoor.RefW
