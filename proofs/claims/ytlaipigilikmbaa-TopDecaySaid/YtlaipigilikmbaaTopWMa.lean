/- granarytop.TopDecay behind its call of one, alone. -/
import Derived.Test.YtlaipigilikmbaaTopPMa
import Derived.Test.YtlaipigilikmbaaMa13
import Derived.Test.YtlaipigilikmbaaMa7
import Derived.Test.YtlaipigilikmbaaMa30
import Derived.Test.YtlaipigilikmbaaStillMa
import Derived.BigQuiet
import Derived.Deep.QuietTactic
import Derived.BigRegion
set_option linter.unusedVariables false
set_option linter.unusedSimpArgs false
namespace Go.Proofs.Ytlaipigilikmbaa.TopW
open Go Go.RowKit Go.Proofs Go.Proofs.Ytlaipigilikmbaa Go.Proofs.Ytlaipigilikmbaa.Cl PutW CrcW Fram Crc PackW FrameW GetW ApartW OpenW ProtectW MendW Ham LwW
noncomputable def kE : Nat → Code
  | 0 => (Try.f3.body).getD .skip
  | i + 1 => Co.sR (kE i)
noncomputable def kC (i : Nat) : Code := Co.sL (kE i)
theorem kE0 : kE 0 = .seq (kC 0) (kE 1) := by kernel_rfl
theorem kE1 : kE 1 = .seq (kC 1) (kE 2) := by kernel_rfl
theorem kE2 : kE 2 = .seq (kC 2) (kE 3) := by kernel_rfl
theorem kE3 : kE 3 = .seq (kC 3) (kE 4) := by kernel_rfl
theorem kE4 : kE 4 = .seq (kC 4) (kE 5) := by kernel_rfl
theorem kE5 : kE 5 = .seq (kC 5) (kE 6) := by kernel_rfl
theorem kE6 : kE 6 = .seq (kC 6) (kE 7) := by kernel_rfl
theorem kE7 : kE 7 = .seq (kC 7) (kE 8) := by kernel_rfl
theorem kE8 : kE 8 = .seq (kC 8) (kE 9) := by kernel_rfl
theorem kE9 : kE 9 = .seq (kC 9) (kE 10) := by kernel_rfl
theorem kE10 : kE 10 = .seq (kC 10) (kE 11) := by kernel_rfl
theorem litu (t : Array Value) (h : t.size = 171) : ∃ u : Nat → Value, (fun i => t.getD i undef) = u ∧ t = #[u 0, u 1, u 2, u 3, u 4, u 5, u 6, u 7, u 8, u 9, u 10, u 11, u 12, u 13, u 14, u 15, u 16, u 17, u 18, u 19, u 20, u 21, u 22, u 23, u 24, u 25, u 26, u 27, u 28, u 29, u 30, u 31, u 32, u 33, u 34, u 35, u 36, u 37, u 38, u 39, u 40, u 41, u 42, u 43, u 44, u 45, u 46, u 47, u 48, u 49, u 50, u 51, u 52, u 53, u 54, u 55, u 56, u 57, u 58, u 59, u 60, u 61, u 62, u 63, u 64, u 65, u 66, u 67, u 68, u 69, u 70, u 71, u 72, u 73, u 74, u 75, u 76, u 77, u 78, u 79, u 80, u 81, u 82, u 83, u 84, u 85, u 86, u 87, u 88, u 89, u 90, u 91, u 92, u 93, u 94, u 95, u 96, u 97, u 98, u 99, u 100, u 101, u 102, u 103, u 104, u 105, u 106, u 107, u 108, u 109, u 110, u 111, u 112, u 113, u 114, u 115, u 116, u 117, u 118, u 119, u 120, u 121, u 122, u 123, u 124, u 125, u 126, u 127, u 128, u 129, u 130, u 131, u 132, u 133, u 134, u 135, u 136, u 137, u 138, u 139, u 140, u 141, u 142, u 143, u 144, u 145, u 146, u 147, u 148, u 149, u 150, u 151, u 152, u 153, u 154, u 155, u 156, u 157, u 158, u 159, u 160, u 161, u 162, u 163, u 164, u 165, u 166, u 167, u 168, u 169, u 170] := ⟨_, rfl, (slots_of 171 t h).trans (by kernel_rfl)⟩
theorem uat {t : Array Value} {u : Nat → Value} (hu : (fun i => t.getD i undef) = u) {i : Nat} {v : Value} (h : t[i]? = some v) : u i = v := by rw [← hu]; exact getD_of h
attribute [local irreducible] pack kindOf lbaOf seqOf seqI longOf dataOf prot mendTo dec pickN cnt flipBit
set_option maxRecDepth 100000 in
set_option maxHeartbeats 8000000 in
theorem rest2 (w : World) (f n K T : Nat) (k1 l1 s1 : Int) (D : Option Addr) (d : List UInt8) (m cd : Nat) (C : Option Addr) (e1 gA e3 gB e4 : Nat) (p a b : List UInt8) (hp : n = p.length) (ha : n = a.length) (hb : K = b.length) (h8 : n % 8 = 0) (hK : K = n / 8) (hn4 : n ≤ 4096) (hm : m = d.length) (hmm : m ≤ 4096) (he3 : n ≤ e3) (he3m : e3 ≤ 9223372036854775807) (he4 : K ≤ e4) (he1 : n ≤ e1) (hF : Bk w f 24 #[.int .i64 k1, .int .i64 l1, .int .i64 s1, .slice D m cd]) (rd : Rd w D (u8v d)) (rp : Rd w C (u8v p)) (ra : Rd w (some ⟨gA, 0, none⟩) (u8v a)) (rb : Rd w (some ⟨gB, 0, none⟩) (u8v b)) (hmend : mendTo a b K = some (p, T))
    (hg : OpenW.Good p n ∧ p.getD 0 0 = 165 ∧ p.getD (n - 1) 0 = 90 ∧ kindOf p = k1 ∧ (lbaOf p : Int) = l1 ∧ seqI p = s1 ∧ longOf p = d.length ∧ dataOf p = d) (hone : cnt a p n = 1 → ¬ OpenW.Good a n)
    (t : Array Value) (ht : t.size = 171) (q4 : t[4]? = some (.pointer (some ⟨f, 0, none⟩))) (q8 : t[8]? = some (.slice C n e1)) (q11 : t[11]? = some (.slice (some ⟨gA, 0, none⟩) n e3)) (q12 : t[12]? = some (.slice (some ⟨gB, 0, none⟩) K e4)) (q13 : t[13]? = some (.int .i64 (T : Nat))) : (kE 11).wp Try.prog (fun e a w' => e = .ret ∧ RX 171 6 (.bool true) a.tmps w'.heap) ⟨t, []⟩ w := by
  obtain ⟨u, hu, e⟩ := litu t ht
  rw [uat hu q4, uat hu q8, uat hu q11, uat hu q12, uat hu q13] at e
  clear hu ht q4 q8 q11 q12 q13
  subst e
  rw [show kE 11 = (Co.sR (Co.sR (Co.sR (Co.sR (Co.sR (Co.sR (Co.sR (Co.sR (Co.sR (Co.sR (Co.sR ((Try.f3.body).getD .skip)))))))))))) by kernel_rfl]
  simp only [Try.f3, Co.sL, Co.sR, Option.getD]
  have HP := hide hp
  have HA := hide ha
  have HB := hide hb
  have H8 := hide h8
  have HK := hide hK
  have HM := hide hm
  have HMD := hide hmend
  have HG := hide hg
  have HO := hide hone
  clear hp ha hb h8 hK hm hmend hg hone
  have z1 : ((T : Int) != (T : Int)) = false := by simp
  go_wp2_with fail
  refine (mend_any _ _ a b n K e3 e4 w HA.out HB.out H8.out hn4 he3 HK.out ra rb).mono ?_
  unfold MendPost
  rw [HMD.out]
  rintro e w2 ⟨hb2, v4, rfl, ho4⟩
  obtain ⟨A4, e5, rfl, he5, -, hr4, -, -⟩ := own_form ho4
  have hcap : e5 ≤ 9223372036854775807 := by
    rcases ho4.2 with ⟨hv, h0⟩ | ⟨g, cap, cur, hv, hb, hg, hnc, hm, hs, ht⟩
    · injection hv with _ _ hv
      omega
    · injection hv with _ _ hv
      simp only [maxLen] at hm
      omega
  have hcd2 := rd.below hb2
  have hp2 := rp.below hb2
  have ha2 := ra.below hb2
  have hF2 := hF.below hb2 hF.lt
  clear ho4 rd rp ra rb hF hb2
  go_wp2_with fail
  refine (open_any A4 p n e5 _ HP.out he5 hcap hr4).mono ?_
  rintro e w3 ⟨hb3, h⟩
  obtain ⟨-, B, c', rfl, hc', hrB⟩ := h.resolve_left fun h => h.1 HG.out.1
  clear h
  rw [HG.out.2.2.2.2.2.2.2] at hrB
  rw [HG.out.2.2.2.2.2.2.1] at hc'
  rw [HG.out.2.2.2.1, HG.out.2.2.2.2.1, HG.out.2.2.2.2.2.1, HG.out.2.2.2.2.2.2.1]
  unfold frV
  have hcd3 := hcd2.below hb3
  have hp3 := hp2.below hb3
  have ha3 := ha2.below hb3
  have hF3 := hF2.below hb3 hF2.lt
  clear hcd2 hp2 ha2 hF2 hb3 hr4
  obtain ⟨d9, hd9⟩ : ∃ d9, d9 = d.length := ⟨_, rfl⟩
  rw [← hd9] at hc' ⊢
  have HD9 := hide hd9
  clear hd9
  have hF4 := Bk.alloc hF3 (.cells #[.int .i64 k1, .int .i64 l1, .int .i64 s1, .slice B d9 c'] 24)
  have c0 := hF4.at_ (i := 0) (u := .int .i64 k1) rfl
  have c1 := hF4.at_ (i := 1) (u := .int .i64 l1) rfl
  have c2 := hF4.at_ (i := 2) (u := .int .i64 s1) rfl
  have c3 := hF4.at_ (i := 3) (u := .slice D m cd) rfl
  go_wp2_with fail
  refine (frames_any k1 l1 s1 k1 l1 s1 B D d d d9 m c' cd _ HD9.out HM.out (by have := HD9.out; have := HM.out; omega) (hrB.alloc _) (hcd3.alloc _) true (by simp)).mono ?_
  rintro e w5 ⟨rfl, hb5⟩
  have hp5 := (hp3.alloc _).below hb5
  have ha5 := (ha3.alloc _).below hb5
  clear hp3 ha3 hb5 hrB hcd3 hF3 hF4 c0 c1 c2 c3
  go_wp2_with fail
  go_loopw [21, 22] (fun fv iv wr => ∃ i dd : Nat, iv = .int .i64 i ∧ i ≤ n ∧ fv = .int .i64 (cnt a p i : Nat) ∧ wr = w5.drewN dd) (fun _ iv _ => n - (intOf iv).toNat)
  case atStart => exact ⟨0, 0, rfl, by omega, by rw [cnt_start]; rfl, rfl⟩
  case round =>
    obtain ⟨i, dd, rfl, hin, rfl, rfl⟩ := hrel
    have hi0 : (0 : Int) ≤ (i : Int) := by omega
    have hcs := cnt_small a p i
    by_cases hlt : i < n
    · have x1 : decide ((i : Int) < (n : Int)) = true := by simp; omega
      have x1' : (i : Int) < (n : Int) := by omega
      obtain ⟨bP, oP, rfl, hcp⟩ := byte_rd hp5 (i := i) (by rw [← HP.out]; exact hlt)
      obtain ⟨bA, oA, hAA, hca⟩ := byte_rd ha5 (i := i) (by rw [← HA.out]; exact hlt)
      injection hAA with hAA
      injection hAA with h1 h2
      subst h1 h2
      simp only [Nat.zero_add] at hca
      have HCN := hide (cnt_next a p i)
      generalize a.getD i 0 = x at hca HCN
      generalize p.getD i 0 = y at hcp HCN
      by_cases hxy : x = y
      · subst hxy
        have e1 : ((x.toNat : Int) != (x.toNat : Int)) = false := by simp
        go_wp2_with fail
        go_quiet (fail)
        go_wp2_with fail
        have hn1 := HCN.out
        rw [if_neg (by simp)] at hn1
        go_roundw
        case rel => exact ⟨i + 1, _, by go_num, by omega, by rw [hn1]; rfl, rfl⟩
        case measure => simp [intOf]; omega
      · have hne : x.toNat ≠ y.toNat := fun e => hxy (UInt8.toNat_inj.1 e)
        have e1 : ((x.toNat : Int) != (y.toNat : Int)) = true := by simp; omega
        go_wp2_with fail
        go_quiet (fail)
        go_wp2_with fail
        have hn1 := HCN.out
        rw [if_pos hxy] at hn1
        go_roundw
        case rel => exact ⟨i + 1, _, by go_num, by omega, by rw [hn1]; simp, rfl⟩
        case measure => simp [intOf]; omega
    · obtain rfl : i = n := by omega
      have x1 : decide ((i : Int) < (i : Int)) = false := by simp
      go_wp2_with fail
      refine (open_any _ a i e3 _ HA.out he3 he3m (ha5.drewN dd)).mono ?_
      rintro e w6 ⟨hb6, h⟩
      have h' : ∃ v st, e = .returned (.tuple #[v, .int .i64 st]) ∧ (OpenW.Good a i ∨ st ≠ 2) := by
        rcases h with ⟨h1, st, rfl, h2⟩ | ⟨h1, B2, c2, rfl, -⟩
        · exact ⟨_, st, rfl, .inr (by rcases h2 with ⟨-, -, rfl⟩ | ⟨-, rfl⟩ <;> decide)⟩
        · exact ⟨_, _, rfl, .inl h1⟩
      obtain ⟨v, st, rfl, hst⟩ := h'
      by_cases hc1 : cnt a p i = 1
      · have e1 : (((cnt a p i : Nat) : Int) != 1) = false := by simp [hc1]
        have e2 : (st != 2) = true := by simpa using hst.resolve_left (HO.out hc1)
        clear h
        go_wp2_with fail
        exact ⟨rfl, rfl⟩
      · have e1 : (((cnt a p i : Nat) : Int) != 1) = true := by simp; omega
        clear h
        go_wp2_with fail
        exact ⟨rfl, rfl⟩
attribute [local irreducible] kE kC
set_option maxRecDepth 100000 in
set_option maxHeartbeats 8000000 in
set_option pp.maxSteps 100000 in
set_option pp.deepTerms true in
theorem rest (w : World) (f : Nat) (n k1 l1 s1 : Int) (D : Option Addr) (d : List UInt8) (m cd : Nat) (A : Option Addr) (xs : List Int) (L cA : Nat) (t1 : -9223372036854775808 ≤ n) (t2 : n ≤ 9223372036854775807) (hF : Bk w f 24 #[.int .i64 k1, .int .i64 l1, .int .i64 s1, .slice D m cd]) (hm : m = d.length) (rd : Rd w D (u8v d)) (hL : L = xs.length) (ra : Rd w A (i64v xs)) (hx : ∀ x ∈ xs, -9223372036854775808 ≤ x ∧ x ≤ 9223372036854775807) (hLm : L ≤ 9223372036854775807)
    (t : Array Value) (ht : t.size = 171) (q0 : t[0]? = some (.int .i64 n)) (q2 : t[2]? = some (.slice A L cA)) (q4 : t[4]? = some (.pointer (some ⟨f, 0, none⟩))) (q7 : t[7]? = some (.bool true)) : (kE 2).wp Try.prog (fun e a w' => e = .ret ∧ RX 171 6 (.bool true) a.tmps w'.heap) ⟨t, []⟩ w := by
  obtain ⟨u, hu, e⟩ := litu t ht
  rw [uat hu q0, uat hu q2, uat hu q4, uat hu q7] at e
  clear hu ht q0 q2 q4 q7
  subst e
  rw [kE2, kE3, kE4, kE5, kE6, kE7, kE8, kE9, kE10, show kC 2 = Co.sL (Co.sR (Co.sR ((Try.f3.body).getD .skip))) by kernel_rfl, show kC 3 = Co.sL (Co.sR (Co.sR (Co.sR ((Try.f3.body).getD .skip)))) by kernel_rfl, show kC 4 = Co.sL (Co.sR (Co.sR (Co.sR (Co.sR ((Try.f3.body).getD .skip))))) by kernel_rfl, show kC 5 = Co.sL (Co.sR (Co.sR (Co.sR (Co.sR (Co.sR ((Try.f3.body).getD .skip)))))) by kernel_rfl, show kC 6 = Co.sL (Co.sR (Co.sR (Co.sR (Co.sR (Co.sR (Co.sR ((Try.f3.body).getD .skip))))))) by kernel_rfl, show kC 7 = Co.sL (Co.sR (Co.sR (Co.sR (Co.sR (Co.sR (Co.sR (Co.sR ((Try.f3.body).getD .skip)))))))) by kernel_rfl, show kC 8 = Co.sL (Co.sR (Co.sR (Co.sR (Co.sR (Co.sR (Co.sR (Co.sR (Co.sR ((Try.f3.body).getD .skip))))))))) by kernel_rfl, show kC 9 = Co.sL (Co.sR (Co.sR (Co.sR (Co.sR (Co.sR (Co.sR (Co.sR (Co.sR (Co.sR ((Try.f3.body).getD .skip)))))))))) by kernel_rfl, show kC 10 = Co.sL (Co.sR (Co.sR (Co.sR (Co.sR (Co.sR (Co.sR (Co.sR (Co.sR (Co.sR (Co.sR ((Try.f3.body).getD .skip))))))))))) by kernel_rfl]
  simp only [Try.f3, Co.sL, Co.sR, Option.getD]
  have HM := hide hm
  have HXL := hide hL
  have HX := hide hx
  clear hm hL hx
  have c0 := hF.at_ (i := 0) (u := .int .i64 k1) rfl
  have c1 := hF.at_ (i := 1) (u := .int .i64 l1) rfl
  have c2 := hF.at_ (i := 2) (u := .int .i64 s1) rfl
  have c3 := hF.at_ (i := 3) (u := .slice D m cd) rfl
  have hfl := hF.lt
  by_cases hfit : Fits n m k1 l1 s1 ∧ (m : Int) ≤ n - 21
  · obtain ⟨hfi, o9⟩ := hfit
    have hfi' := hfi
    obtain ⟨o1, o2, o3, o4, o5, o6, o7, o8⟩ := hfi'
    have HFI := hide hfi
    clear hfi
    obtain ⟨n, rfl⟩ := Int.eq_ofNat_of_zero_le (show 0 ≤ n by omega)
    have hn4 : n ≤ 4096 := by omega
    go_wp2_with fail
    refine (pack_ok n k1 l1 s1 D d m cd _ (by omega) (by omega) o3 o4 o5 o6 o7 o8 HM.out (by omega) rd).mono ?_
    rintro e w2 ⟨v, rfl, ho, hb2⟩
    obtain ⟨C, e1, rfl, he1, -, hr1, -, -⟩ := own_form ho
    have HPL := hide (pack_length n k1.toNat l1.toNat s1.toNat d (by rw [← HM.out]; omega)).symm
    have HBAD : Hid (∀ j, j < 8 * n → ¬ OpenW.Good (flipBit (pack n k1.toNat l1.toNat s1.toNat d) j) n) := hide fun j hj => flip_bad (by rw [← HM.out]; omega) hj
    have HGD := hide (good_pack n k1 l1 s1 d (by rw [← HM.out]; exact HFI.out) (by rw [← HM.out]; omega))
    generalize pack n k1.toNat l1.toNat s1.toNat d = p at hr1 HPL HBAD HGD
    clear ho HFI c0 c1 c2 c3
    have hcd : Rd w2 D (u8v d) := rd.below hb2
    have hca : Rd w2 A (i64v xs) := ra.below hb2
    have hF2 := hF.below hb2 hfl
    have hf2 : f < w2.heap.size := Nat.lt_of_lt_of_le hfl hb2.size
    clear hF hfl rd ra hb2
    by_cases h8 : n % 8 = 0
    · have z8 : ((n : Int) % 8 != 0) = false := by simp; omega
      have H8 := hide h8
      clear h8
      obtain ⟨K, hK⟩ : ∃ K, K = n / 8 := ⟨_, rfl⟩
      have hK8 : n = 8 * K := by have := H8.out; omega
      have hKp : 0 < K := by omega
      have hKm : K ≤ 512 := by omega
      have HK := hide hK
      have HK8 := hide hK8
      have hdiv : (n : Int) / 8 = (K : Int) := by omega
      have hself : ((K : Int) != (K : Int)) = false := by simp
      clear hK hK8
      go_wp2_with fail
      refine (protect_ok C p n e1 _ HPL.out H8.out hn4 he1 hr1).mono ?_
      rw [← HK.out]
      rintro e w3 ⟨v, rfl, ho, hb3⟩
      obtain ⟨C1, e2, rfl, he2, -, hr2, -, -⟩ := own_form ho
      clear ho
      have hcd3 := hcd.below hb3
      have hca3 := hca.below hb3
      have hp3 := hr1.below hb3
      have hF3 := hF2.below hb3 hf2
      have hf3 : f < w3.heap.size := Nat.lt_of_lt_of_le hf2 hb3.size
      clear hcd hca hF2 hf2 hb3 hr1
      obtain ⟨i0, hi0, hz0, hz1, hz2⟩ := info_parts u8_info
      have HKB := hide (Below.refl w3.heap.size w3)
      have hb1 : Below w3.heap.size w3 (w3.alloc (.cells #[] 5)) := (Below.refl _ _).alloc (Nat.le_refl _) _
      go_wp2_with (first
        | (at_builtin
           refine wpList_append_rd _ rfl (.tmp 54) (.tmp 55) 22 rfl w3.heap.size 5 i0 _ 1 Try.underlying22 hi0 hz0 hz1 hz2 rfl (.slice (some ⟨w3.heap.size, 0, none⟩) 0 0) 0 [] rfl (by exact own_new w3 _ _ #[] 0 (Nat.le_refl _) (by simp) rfl) C n e1 (u8v p) rfl (by rw [u8v_length, ← HPL.out]) (by exact hp3.alloc _) (u8v_one p) (by simp only [maxLen]; omega) (by omega) (by simp) ?_
           intro vA w4 hownA hgA
           have hb4 : Below w3.heap.size w3 w4 := hb1.grown hgA hb1.size (by intro k hk; simp [Value.ownBlock] at hk; omega)
           have hsz4 := hb4.size
           simp only [Nat.zero_add, List.nil_append] at hownA
           obtain ⟨AA, e3, rfl, he3, -, hrdA, -, hltA⟩ := own_form hownA
           have HLA := hide hltA
           have hp4 := hr2.below hb4
           clear hltA hrdA hb1 hgA)
        | (at_builtin
           refine wpList_append_rd _ rfl (.tmp 57) (.tmp 58) 22 rfl w4.heap.size 5 i0 _ 1 Try.underlying22 hi0 hz0 hz1 hz2 rfl (.slice (some ⟨w4.heap.size, 0, none⟩) 0 0) 0 [] rfl (by exact own_new w4 _ _ #[] 0 (Nat.le_refl _) (by simp) rfl) C1 K e2 (u8v (prot p K)) rfl (by rw [u8v_length, prot_length]) (by exact hp4.alloc _) (u8v_one _) (by simp only [maxLen]; omega) (by omega) (by simp) ?_
           intro vB w5 hownB hgB
           have hb5 : Below w4.heap.size w4 w5 := ((Below.refl _ w4).alloc (Nat.le_refl _) _).grown hgB (by simp) (by intro k hk; simp [Value.ownBlock] at hk; omega)
           simp only [Nat.zero_add, List.nil_append] at hownB
           obtain ⟨AB, e4, rfl, he4, -, hrdB, -, hltB⟩ := own_form hownB
           have HLB := hide hltB
           clear hltB hrdB hgB))
      have hb35 := hb4.trans (hb5.mono hsz4)
      have hownA5 := own_below hownA hb5 (Nat.le_refl _)
      obtain ⟨gA, rfl, hgA1, hgA2⟩ := own_at hownA (by omega)
      obtain ⟨gB, rfl, hgB1, hgB2⟩ := own_at hownB hKp
      have hne : gA ≠ gB := fun e => by
        have := (HLA.out gA rfl).2
        omega
      clear hownA HLA HLB hb4 hb5 hp4 HKB
      go_loopw [13, 14] (fun tv iv wr => ∃ i : Nat, iv = .int .i64 i ∧ i ≤ L ∧ i ≤ K ∧ tv = .int .i64 ((dec p (prot p K) xs i).2.2 : Nat) ∧ wr.ownsRow w3.heap.size 5 1 (.slice (some ⟨gA, 0, none⟩) n e3) n (u8v (dec p (prot p K) xs i).1) ∧ wr.ownsRow w4.heap.size 5 1 (.slice (some ⟨gB, 0, none⟩) K e4) K (u8v (dec p (prot p K) xs i).2.1) ∧ Below w3.heap.size w3 wr) (fun _ iv _ => K - (intOf iv).toNat)
      case atStart => exact ⟨0, rfl, by omega, by omega, by rw [dec_zero]; rfl, by rw [dec_zero]; exact hownA5, by rw [dec_zero]; exact hownB, hb35⟩
      case round =>
        obtain ⟨i, rfl, hiL, hiK, rfl, hoA, hoB, hbr⟩ := hrel
        have hi0' : (0 : Int) ≤ (i : Int) := by omega
        by_cases hlt : i < L ∧ i < K
        · obtain ⟨hlt1, hlt2⟩ := hlt
          have x1 : decide ((i : Int) < (L : Int)) = true := by simp; omega
          have x2 : decide ((i : Int) < (K : Int)) = true := by simp; omega
          have x1' : (i : Int) < (L : Int) := by omega
          obtain ⟨bA, oA, rfl, hcx⟩ := int_rd (hca3.below hbr) (i := i) (by rw [← HXL.out]; exact hlt1)
          have hbx := HX.out (xs.getD i 0) (by rw [List.getD_eq_getElem?_getD, List.getElem?_eq_getElem (by rw [← HXL.out]; exact hlt1)]; exact List.getElem_mem _)
          obtain ⟨x, hxx⟩ : ∃ x, x = xs.getD i 0 := ⟨_, rfl⟩
          rw [← hxx] at hcx hbx
          have hkk := pickN_lt x 80 (by omega)
          have hpick := fun W => pick_any x 80 80 rfl (by omega) (by omega) hbx.1 hbx.2 W
          obtain ⟨k, hk⟩ : ∃ k, k = pickN x 80 := ⟨_, rfl⟩
          rw [← hk] at hkk hpick
          have HKX := hide (show pickN (xs.getD i 0) 80 = k by rw [← hxx, hk])
          have hds := dec_small p (prot p K) xs i
          obtain ⟨q1, q2⟩ := dec_len p (prot p K) xs i
          have HQ1 := hide q1
          have HQ2 := hide (q2.trans (prot_length p K))
          have HP := hide hpick
          clear q1 q2 hpick hxx hk
          have hk0 : (0 : Int) ≤ (k : Int) := by omega
          by_cases hk64 : k < 64
          · have y1 : decide ((k : Int) < 64) = true := by simp; omega
            go_wp2_with fail
            refine (HP.out _).mono ?_
            rintro e w' ⟨rfl, rfl⟩
            go_wp2_with fail
            have hq : 8 * (i : Int) + (k : Int) / 8 = ((8 * i + k / 8 : Nat) : Int) := by omega
            have hqn : 8 * i + k / 8 < n := by have := HK8.out; omega
            obtain ⟨q, hqq⟩ : ∃ q, q = 8 * i + k / 8 := ⟨_, rfl⟩
            rw [← hqq] at hq hqn
            have HQQ := hide hqq
            clear hqq
            have hq0 : (0 : Int) ≤ (q : Int) := by omega
            have hqn' : (q : Int) < (n : Int) := by omega
            refine still_tail 19 (by kernel_rfl) (by kernel_rfl) ?_
            intro wX hwX
            simp only [List.take_succ_cons, List.take_zero, List.drop_succ_cons, List.drop_zero]
            have hoAX : wX.ownsRow w3.heap.size 5 1 (.slice (some ⟨gA, 0, none⟩) n e3) n (u8v (dec p (prot p K) xs i).1) := by rw [hwX]; exact World.ownsRow.drew hoA
            have hoBX : wX.ownsRow w4.heap.size 5 1 (.slice (some ⟨gB, 0, none⟩) K e4) K (u8v (dec p (prot p K) xs i).2.1) := by rw [hwX]; exact World.ownsRow.drew hoB
            have hbX : Below w3.heap.size w3 wX := by rw [hwX]; exact hbr.drew
            have hcell := get_cell hoAX q hqn (by rw [HQ1.out]; exact HPL.out)
            have hfree := hoAX.frozenAt q
            have HOA := hide hoAX
            have HOB := hide hoBX
            have HBX := hide hbX
            clear hoA hoB hbr hwX hoAX hoBX hbX hcx
            have w1 : IntKind.i64.wrap (8 * (i : Int)) = 8 * (i : Int) := Go.IntWalk.i64_in _ (by omega)
            have w2' : IntKind.i64.wrap ((k : Int) / 8) = (k : Int) / 8 := Go.IntWalk.i64_in _ (by omega)
            obtain ⟨r, hr⟩ : ∃ r, r = k % 8 := ⟨_, rfl⟩
            have hmod : ((k : Int)).tmod 8 = (r : Int) := by rw [Int.tmod_eq_emod_of_nonneg hk0]; omega
            have hr0 : (0 : Int) ≤ (r : Int) := by omega
            have hr8 : (r : Int) < 8 := by omega
            have hr8' : r < 8 := by omega
            have HR := hide hr
            clear hr
            have w3' : IntKind.i64.wrap (q : Int) = (q : Int) := Go.IntWalk.i64_in _ (by omega)
            repeat still_step
            refine wpStill_nil ?_
            go_wp2_with fail
            have hdw := dec_word p (prot p K) xs i (by rw [HKX.out]; exact hk64)
            go_roundw
            case rel =>
              refine ⟨i + 1, by go_num, by omega, by omega, by rw [hdw]; simp, ?_, ?_, HBX.out.setCell (p := ⟨gA, q, none⟩) hgA1 _⟩
              · have hxb := xor_bit ((dec p (prot p K) xs i).1.getD q 0) k
                rw [← HR.out] at hxb
                simp only [List.getD_eq_getElem?_getD] at hxb
                rw [hdw, hxb]
                dsimp only
                rw [HKX.out, flipBit_cells, show (64 * i + k) / 8 = q by rw [HQQ.out]; omega, show (64 * i + k) % 8 = r by rw [HR.out]; omega]
                simp only [List.getD_eq_getElem?_getD]
                exact (HOA.out.stored _ _).1
              · rw [hdw]
                refine HOB.out.kept (HOA.out.stored _ _).2 (.inr fun e => hne ?_)
                simpa [Value.ownBlock] using e.symm
            case measure => simp [intOf]; omega
          · have y1 : decide ((k : Int) < 64) = false := by simp; omega
            by_cases hk72 : k < 72
            · have y2 : decide ((k : Int) < 72) = true := by simp; omega
              go_wp2_with fail
              refine (HP.out _).mono ?_
              rintro e w' ⟨rfl, rfl⟩
              go_wp2_with fail
              have hiK' : (i : Int) < (K : Int) := by omega
              refine still_tail 11 (by kernel_rfl) (by kernel_rfl) ?_
              intro wX hwX
              simp only [List.take_succ_cons, List.take_zero, List.drop_succ_cons, List.drop_zero]
              have hoAX : wX.ownsRow w3.heap.size 5 1 (.slice (some ⟨gA, 0, none⟩) n e3) n (u8v (dec p (prot p K) xs i).1) := by rw [hwX]; exact World.ownsRow.drew hoA
              have hoBX : wX.ownsRow w4.heap.size 5 1 (.slice (some ⟨gB, 0, none⟩) K e4) K (u8v (dec p (prot p K) xs i).2.1) := by rw [hwX]; exact World.ownsRow.drew hoB
              have hbX : Below w3.heap.size w3 wX := by rw [hwX]; exact hbr.drew
              have hcell := get_cell hoBX i hlt2 HQ2.out.symm
              have hfree := hoBX.frozenAt i
              have HOA := hide hoAX
              have HOB := hide hoBX
              have HBX := hide hbX
              clear hoA hoB hbr hwX hoAX hoBX hbX hcx
              obtain ⟨r, hr⟩ : ∃ r, r = k % 8 := ⟨_, rfl⟩
              have hmod : ((k : Int)).tmod 8 = (r : Int) := by rw [Int.tmod_eq_emod_of_nonneg hk0]; omega
              have hr0 : (0 : Int) ≤ (r : Int) := by omega
              have hr8 : (r : Int) < 8 := by omega
              have hr8' : r < 8 := by omega
              have HR := hide hr
              clear hr
              repeat still_step
              refine wpStill_nil ?_
              go_wp2_with fail
              have hdw := dec_check p (prot p K) xs i (by rw [HKX.out]; exact hk64) (by rw [HKX.out]; exact hk72)
              go_roundw
              case rel =>
                refine ⟨i + 1, by go_num, by omega, by omega, by rw [hdw]; simp, ?_, ?_, HBX.out.setCell (p := ⟨gB, i, none⟩) (by show w3.heap.size ≤ gB; omega) _⟩
                · rw [hdw]
                  refine HOA.out.kept (HOB.out.stored _ _).2 (.inr fun e => hne ?_)
                  simpa [Value.ownBlock] using e
                · have hxb := xor_bit ((dec p (prot p K) xs i).2.1.getD i 0) k
                  rw [← HR.out] at hxb
                  simp only [List.getD_eq_getElem?_getD] at hxb
                  rw [hdw, hxb]
                  dsimp only
                  rw [HKX.out, flipBit_cells, show (8 * i + (k - 64)) / 8 = i by omega, show (8 * i + (k - 64)) % 8 = r by rw [HR.out]; omega]
                  simp only [List.getD_eq_getElem?_getD]
                  exact (HOB.out.stored _ _).1
              case measure => simp [intOf]; omega
            · have y2 : decide ((k : Int) < 72) = false := by simp; omega
              go_wp2_with fail
              refine (HP.out _).mono ?_
              rintro e w' ⟨rfl, rfl⟩
              go_wp2_with fail
              have hdw := dec_not p (prot p K) xs i (by rw [HKX.out]; exact hk72)
              go_roundw
              case rel => exact ⟨i + 1, by go_num, by omega, by omega, by rw [hdw], by rw [hdw]; exact hoA, by rw [hdw]; exact hoB, hbr⟩
              case measure => simp [intOf]; omega
        · have he3m : e3 ≤ 9223372036854775807 := by
            rcases hoA.2 with ⟨hv, h0⟩ | ⟨g, cap, cur, hv, hb, hg, hnc, hm, hs, ht⟩
            · omega
            · injection hv with _ _ hv
              simp only [maxLen] at hm
              omega
          have hgo : ∀ tt : Array Value, tt.size = 171 → tt[4]? = some (.pointer (some ⟨f, 0, none⟩)) → tt[8]? = some (.slice C n e1) → tt[11]? = some (.slice (some ⟨gA, 0, none⟩) n e3) → tt[12]? = some (.slice (some ⟨gB, 0, none⟩) K e4) → tt[13]? = some (.int .i64 ((dec p (prot p K) xs i).2.2 : Nat)) → (kE 11).wp Try.prog (fun e a w' => e = .ret ∧ RX 171 6 (.bool true) a.tmps w'.heap) ⟨tt, []⟩ wr := fun tt h1 h2 h3 h4 h5 h6 => by
            obtain ⟨q1, q2⟩ := dec_len p (prot p K) xs i
            refine rest2 wr f n K _ k1 l1 s1 D d m cd C e1 gA e3 gB e4 p _ _ HPL.out (by rw [q1]; exact HPL.out) (by rw [q2, prot_length]) H8.out HK.out hn4 HM.out (by omega) he3 he3m he4 he1 (hF3.below hbr hf3) (hcd3.below hbr) (hp3.below hbr) (Rd.of_own hoA) (Rd.of_own hoB) (dec_mends p xs K i (by rw [← HPL.out]; exact HK8.out) hiK) HGD.out (fun h => ?_) tt h1 h2 h3 h4 h5 h6
            obtain ⟨j, h7, h8⟩ := dec_one p (prot p K) xs K (by rw [← HPL.out]; exact HK8.out) i hiK (by rw [← HPL.out]; exact h)
            rw [h8]
            exact HBAD.out j (by rw [HPL.out]; exact h7)
          by_cases hlt1 : i < L
          · have x1 : decide ((i : Int) < (L : Int)) = true := by simp; omega
            have x2 : decide ((i : Int) < (K : Int)) = false := by simp; omega
            go_wp2_with fail
            exact hgo _ rfl rfl rfl rfl rfl rfl
          · have x1 : decide ((i : Int) < (L : Int)) = false := by simp; omega
            go_wp2_with fail
            exact hgo _ rfl rfl rfl rfl rfl rfl
    · have z8 : ((n : Int) % 8 != 0) = true := by simp; omega
      go_wp2_with fail
      exact ⟨rfl, rfl⟩
  · have HF1 := hide hfit
    clear hfit
    go_wp2_with fail
    refine (pack_bad n k1 l1 s1 D m cd _ t1 t2 HF1.out).mono ?_
    rintro e w2 ⟨z, rfl, hb2⟩
    go_wp2_with fail
    exact ⟨rfl, rfl⟩
def R0 (k1 l1 s1 : Int) (D : Option Addr) (m cd : Nat) (w : World) (u : Nat → Value) (t : Array Value) (h : Array Obj) : Prop := Kp 171 [0, 2] u t ∧ HB w.heap h ∧ ∃ f, t[4]? = some (.pointer (some ⟨f, 0, none⟩)) ∧ Bk (hW h) f 24 #[.int .i64 k1, .int .i64 l1, .int .i64 s1, .slice D m cd]
set_option maxRecDepth 20000 in
theorem p0 (w : World) (k1 l1 s1 : Int) (D : Option Addr) (m cd : Nat) (t : Array Value) (ht : t.size = 171) (q1 : t[1]? = some (.agg #[.int .i64 k1, .int .i64 l1, .int .i64 s1, .slice D m cd])) : (kC 0).wp Try.prog (fun e a w' => e = .normal ∧ R0 k1 l1 s1 D m cd w (fun i => t.getD i undef) a.tmps w'.heap) ⟨t, []⟩ w := by
  obtain ⟨u, hu, e⟩ := litu t ht
  rw [hu]
  rw [uat hu q1] at e
  clear hu ht q1
  subst e
  rw [show kC 0 = Co.sL (((Try.f3.body).getD .skip)) by kernel_rfl]
  simp only [Try.f3, Co.sL, Co.sR, Option.getD]
  have hb := (Below.refl w.heap.size w).alloc (Nat.le_refl _) (.cells #[.int .i64 k1, .int .i64 l1, .int .i64 s1, .slice D m cd] 24)
  have hB := Bk.new w 24 #[.int .i64 k1, .int .i64 l1, .int .i64 s1, .slice D m cd]
  have HB1 := hide hb
  have HB2 := hide hB
  clear hb hB
  go_wp2_with fail
  exact ⟨⟨rfl, by intro s hs; simp only [List.mem_cons, List.not_mem_nil, or_false] at hs; rcases hs with rfl | rfl <;> rfl⟩, .of HB1.out, _, rfl, HB2.out⟩
end Go.Proofs.Ytlaipigilikmbaa.TopW
