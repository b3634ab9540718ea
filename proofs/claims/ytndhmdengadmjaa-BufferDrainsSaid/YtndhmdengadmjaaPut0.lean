/- The walks of granarylaw1's map0 and put0. -/
import Derived.Test.YtndhmdengadmjaaItems
set_option linter.unusedVariables false
namespace Go.Proofs.Ytndhmdengadmjaa.BufL
open Go.RowKit I64 BufP BufW Items

theorem ritem_info : (Try.prog.info? 36).map (fun i => (i.zero, i.size, i.bytes)) = some (some (.agg #[.int .i64 0, .bool false, .slice none 0 0]), 3, 40) := by kernel_rfl

theorem map0_any (w : World) : Calls Try.prog 8 #[] w fun e w' => e = .returned (.slice none 0 0) ∧ w' = w := by
  go_enter Try.func8, Try.ntmps8
  go_wp2_with fail
  go_ret
  exact ⟨rfl, rfl⟩

set_option maxHeartbeats 2000000 in
theorem put0_any (B base : Nat) (v : Value) (its : List It) (y : It) (A : Option Addr) (ca : Nat) (w : World) (h : RowsAt w B base 36 v its) (hd : BufW.Data w B y.2.2 A ca) (hl : its.length + 1 ≤ 3518437208883) (hB : B ≤ w.heap.size) :
    Calls Try.prog 10 #[v, .agg #[.int .i64 y.1, .bool y.2.1, .slice A y.2.2.length ca]] w fun e w' => ∃ v', e = .returned v' ∧ RowsAt w' B w.heap.size 36 v' (put0 its y) ∧ Below w.heap.size w w' := by
  obtain ⟨W, hW⟩ : ∃ W, W = w.alloc (.cells #[.int .i64 y.1, .bool y.2.1, .slice A y.2.2.length ca] 36) := ⟨_, rfl⟩
  have hs : W.heap.size = w.heap.size + 1 := by rw [hW]; simp
  have f0 : Fr B never w W := by rw [hW]; exact (Fr.refl B never w).alloc hB _
  have HB0 : Hid (Below w.heap.size w W) := hide (by rw [hW]; exact (Below.refl _ _).alloc (Nat.le_refl _) _)
  have K0 : Bk W w.heap.size 36 #[.int .i64 y.1, .bool y.2.1, .slice A y.2.2.length ca] := by rw [hW]; exact Bk.new _ _ _
  have f1 : Fr B never W (W.alloc (.cells #[] 36)) := (Fr.refl B never W).alloc (by omega) _
  have H1 := hide ((h.fr f0 (fun _ _ h => h) (fun _ _ h => h)).fr f1 (fun _ _ h => h) (fun _ _ h => h))
  have HD1 := hide ((hd.fr f0 (fun _ _ h => h)).fr f1 (fun _ _ h => h))
  have K1 := hide (K0.alloc (.cells #[] 36))
  have E1 := hide (RowsAt.empty W B 36)
  rw [hs] at E1
  have HB := hide hB
  have HL := hide hl
  have HS := hide hs
  obtain ⟨y0, y1, ld⟩ := y
  clear h hd hl hB hs f0 K0 f1
  subst hW
  simp only at H1 HD1 K1 E1 HS HB0
  go_enter Try.func10, Try.ntmps10
  go_wp2_with (first
    | (refine wpList_items (B := B) (base := w.heap.size + 1) (its := []) rfl (.tmp 7) (.tmp 8) rfl Try.underlying28 ritem_info (by decide) rfl E1.out rfl H1.out (by have := HL.out; simp only [List.length_nil]; omega) (by have := HB.out; have := HS.out; omega) (by simp) ?_
       intro v2 w2 hv2 hf2)
    | fail)
  rw [List.nil_append] at hv2
  have K2 : Bk w2 w.heap.size 36 #[.int .i64 y0, .bool y1, .slice A ld.length ca] := (hf2.low.block w.heap.size (by omega)).trans K1.out
  have HB2 : Hid (Below w.heap.size w w2) := hide ((HB0.out.trans ((Below.refl _ _).alloc (by simp) _)).trans (hf2.low.mono (by omega)))
  have HD2 := hide (dgrow HD1.out hf2 (by decide) (by have := HB.out; omega))
  have b0 := K2.at_ (i := 0) (u := .int .i64 y0) rfl
  have b1 := K2.at_ (i := 1) (u := .bool y1) rfl
  have b2 := K2.at_ (i := 2) (u := .slice A ld.length ca) rfl
  have HK2 := hide K2
  have HV2 := hide hv2
  obtain ⟨A2, c2, rfl, -, -⟩ := hv2.form
  have HS2 : Hid (w.heap.size + 1 ≤ w2.heap.size) := hide (by have := hf2.size; simp at this; omega)
  obtain ⟨g0, hg0⟩ : ∃ g0, g0 = w.heap.size := ⟨_, rfl⟩
  have HG0 := hide hg0
  rw [← hg0] at b0 b1 b2 ⊢
  obtain ⟨n, hn⟩ : ∃ n, n = its.length := ⟨_, rfl⟩
  have HN := hide hn
  rw [← hn]
  have hbn : n ≤ 3518437208882 := by have := HL.out; omega
  clear hv2 hf2 H1 E1 HS HD1 K1 K2 HB0 hg0 hn
  go_loopw [6] (fun i wr => ∃ j d : Nat, j ≤ n ∧ i = .int .i64 j ∧ wr = w2.drewN d ∧ Hid (∀ q, q < j → (its.getD q (0, false, [])).1 ≠ y0)) (fun i _ => n - (intOf i).toNat)
  case atStart => exact ⟨0, 0, by omega, rfl, rfl, hide (fun q hq => absurd hq (Nat.not_lt_zero q))⟩
  case round =>
    obtain ⟨j, d, hj, rfl, rfl, HT⟩ := hrel
    by_cases hlt : j < n
    · obtain ⟨x, hx⟩ : ∃ x, its[j]? = some x := ⟨its[j]'(by rw [← HN.out]; exact hlt), List.getElem?_eq_getElem (by rw [← HN.out]; exact hlt)⟩
      obtain ⟨g, c, Ax, cx, hA2, c0, c1, c2', -, hgb, -⟩ := HV2.out.get hx
      obtain ⟨rfl, rfl⟩ : A2 = some ⟨g, 0, none⟩ ∧ c2 = c := by injection hA2 with h1 h2 h3; exact ⟨h1, h3⟩
      have hd1 : decide ((j : Int) < (n : Int)) = true := by simp; omega
      have hji : (j : Int) < (n : Int) := by omega
      have HX := hide hx
      have fz0 := HV2.out.free rfl (j * 3)
      have fz1 := HV2.out.free rfl (j * 3 + 1)
      have fz2 := HV2.out.free rfl (j * 3 + 2)
      obtain ⟨z0, z1, zd⟩ := x
      simp only at c0 c1 c2'
      by_cases heq : z0 = y0
      · have hb : (z0 == y0) = true := by simp [heq]
        have HEQ := hide heq
        clear heq hx hA2
        go_wp2_with fail
        go_quiet (fail)
        go_wp2_with fail
        go_ret
        have HVd : RowsAt (w2.drewN (d + nq)) B (w.heap.size + 1) 36 (.slice (some ⟨g, 0, none⟩) its.length c2) its := HV2.out
        have HDd : BufW.Data (w2.drewN (d + nq)) B ld A ca := HD2.out
        have hjl : j < its.length := by rw [← HN.out]; exact hlt
        obtain ⟨hr, hf⟩ := HVd.set (by decide) rfl hjl (y0, y1, ld) A ca HDd (by have := HB.out; omega)
        have hpu : put0 its (y0, y1, ld) = its.set j (y0, y1, ld) := put0_hit hjl HT.out (by rw [List.getD_eq_getElem?_getD, HX.out]; exact HEQ.out)
        rw [hpu]
        refine ⟨_, rfl, ?_, ?_⟩
        · have hh := hr.base_ (b' := w.heap.size) (by omega)
          have e : (.slice (some ⟨g, 0, none⟩) n c2 : Value) = .slice (some ⟨g, 0, none⟩) its.length c2 := by rw [HN.out]
          exact e ▸ hh
        · exact (HB2.out.trans (below_drewN (Below.refl _ _) (d + nq))).trans (hf.low.mono (Nat.le_succ w.heap.size))
      · have hb : (z0 == y0) = false := by simp [heq]
        have HEQ := hide heq
        clear heq hx hA2
        go_wp2_with fail
        go_quiet (fail)
        go_wp2_with fail
        go_roundw
        case rel => exact ⟨j + 1, _, by omega, by go_num, rfl, hide (fun q hq => by
          rcases Nat.lt_or_ge q j with h | h
          · exact HT.out q h
          · have : q = j := by omega
            subst this
            rw [List.getD_eq_getElem?_getD, HX.out]
            exact HEQ.out)⟩
        case measure => simp [intOf]; omega
    · have hd1 : decide ((j : Int) < (n : Int)) = false := by simp; omega
      have hjn : j = n := by omega
      have HXX : Hid (put0 its (y0, y1, ld) = its ++ [(y0, y1, ld)]) := hide (put0_miss (fun q hq => HT.out q (by rw [hjn, HN.out]; exact hq)))
      have f3 : Fr B never (w2.drewN d) ((w2.drewN d).alloc (.cells #[.int .i64 y0, .bool y1, .slice A ld.length ca] 36)) := (Fr.refl B never _).alloc (by have h1 := HS2.out; have h2 := HB.out; show B ≤ w2.heap.size; omega) _
      have HVd : RowsAt (w2.drewN d) B (w.heap.size + 1) 36 (.slice A2 n c2) its := by rw [HN.out]; exact HV2.out
      have HDd : BufW.Data (w2.drewN d) B ld A ca := HD2.out
      have HV3 := hide (HVd.fr f3 (fun _ _ h => h) (fun _ _ h => h))
      have HD3 := hide (HDd.fr f3 (fun _ _ h => h))
      have HK3 := hide (Bk.new (w2.drewN d) 36 #[.int .i64 y0, .bool y1, .slice A ld.length ca])
      have HB3 : Hid (Below w.heap.size w ((w2.drewN d).alloc (.cells #[.int .i64 y0, .bool y1, .slice A ld.length ca] 36))) := hide ((HB2.out.trans (below_drewN (Below.refl _ _) d)).trans (((Below.refl w.heap.size (w2.drewN d))).alloc (by have := HS2.out; show w.heap.size ≤ w2.heap.size; omega) _))
      clear f3 HVd HDd hjn
      go_wp2_with (first
        | (refine wpList_item (B := B) (base := w.heap.size + 1) rfl (.tmp 29) (.tmp 31) rfl Try.underlying28 ritem_info (by decide) rfl HV3.out (y0, y1, ld) A ca HD3.out w2.heap.size 1 rfl HK3.out HL.out (by have := HB.out; omega) (by have := HS2.out; simp; omega) ?_
           intro g5 cap5 w5 hr5 hf5)
        | fail)
      go_ret
      rw [HXX.out]
      exact ⟨_, rfl, hr5.base_ (by omega), HB3.out.trans (hf5.low.mono (by omega))⟩
end Go.Proofs.Ytndhmdengadmjaa.BufL
