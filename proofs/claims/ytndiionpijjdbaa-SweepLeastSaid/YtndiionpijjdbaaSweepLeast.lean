/- The walk of granarylaw1.SweepLeast. -/
import Derived.Test.YtndiionpijjdbaaSweepS
import Derived.Test.YtndiionpijjdbaaBlkOpen
import Derived.Test.YtndiionpijjdbaaIntsOpen
set_option linter.unusedVariables false
namespace Go.Proofs.Ytndiionpijjdbaa.SwW
open Go.RowKit I64 Stab

/-- What is taken. -/
structure Tak (S : Nat → Blk) (n k : Nat) (T : List Int) : Prop where
  nd : T.Nodup
  us : ∀ t ∈ T, ∃ i : Nat, t = i ∧ i < n ∧ (S i).u = true
  fw : T = [] ∨ T.length < k
theorem Tak.nil {S : Nat → Blk} {n k : Nat} : Tak S n k [] := ⟨List.nodup_nil, by simp, .inl rfl⟩
theorem Tak.snoc {S : Nat → Blk} {n k i : Nat} {T : List Int} (h : Tak S n k T) (hi : i < n) (hu : (S i).u = true) (hn : (i : Int) ∉ T) (hk : T.length + 1 < k) : Tak S n k (T ++ [(i : Int)]) := by
  refine ⟨List.nodup_append.2 ⟨h.nd, by simp, fun a ha b hb => ?_⟩, fun t ht => ?_, .inr (by simp; omega)⟩
  · simp at hb
    subst hb
    rintro rfl
    exact hn ha
  · rcases List.mem_append.1 ht with ht | ht
    · exact h.us t ht
    · simp at ht
      exact ⟨i, ht, hi, hu⟩
theorem Tak.bound {S : Nat → Blk} {n k : Nat} {T : List Int} (h : Tak S n k T) {pages : Int} (hp : pages ≤ 4096) (hok : ∀ i, i < n → 0 ≤ (S i).lv ∧ (S i).lv ≤ pages) : 0 ≤ sumF S pages T ∧ sumF S pages T ≤ 4096 * T.length := by
  have hu := h.us
  clear h
  induction T with
  | nil => simp [sumF]
  | cons t T ih =>
    have h1 := ih (fun t ht => hu t (List.mem_cons_of_mem _ ht))
    obtain ⟨i, rfl, hi, -⟩ := hu t (List.mem_cons_self ..)
    have h2 := hok i hi
    simp only [sumF, List.length_cons, Int.toNat_natCast]
    omega
theorem mem_take_succ {T : List Int} {j : Nat} {x z : Int} (h : T[j]? = some z) : x ∈ T.take (j + 1) ↔ x ∈ T.take j ∨ z = x := by
  rw [List.take_add_one, h, Option.toList_some, List.mem_append]
  simp [eq_comm]
attribute [local irreducible] flt okB elig Srt ckey First flatB mostF leastF levR pickN wonF sumF
set_option maxRecDepth 20000 in
set_option maxHeartbeats 8000000 in
theorem least_any (w : World) (A : Option Addr) (n c : Nat) (S : Nat → Blk) (hnc : n ≤ c) (hn : n * 24 ≤ 140737488351232) (hin : ∀ i, inB (S i)) (hr : RdB w A n S w.heap.size) (pages : Int) (hp1 : -9223372036854775808 ≤ pages) (hp2 : pages ≤ 9223372036854775807)
    (need : Int) (hm1 : -9223372036854775808 ≤ need) (hm2 : need ≤ 9223372036854775807) (AX : Option Addr) (X : List Int) (m cx : Nat) (hmX : m = X.length) (hmc : m ≤ cx) (hcx : cx ≤ 17592186043904) (hXb : ∀ x ∈ X, -9223372036854775808 ≤ x ∧ x ≤ 9223372036854775807) (hrx : Rd w AX (i64v X)) :
    Calls Try.prog 4 #[.slice A n c, .int .i64 pages, .int .i64 need, .slice AX m cx] w fun e w' => e = .returned (.bool true) ∧ Below w.heap.size w w' := by
  have HR := hide hr
  have HRX := hide hrx
  have HXB := hide hXb
  have HMX := hide hmX
  clear hr hrx hXb hmX
  go_enter Try.func4, Try.ntmps4
  go_wp2_with fail
  refine (fact_choose _ w).mono ?_
  rintro e w1 ⟨rfl, hb1⟩
  have HB1 := hide hb1
  have HR1 := hide (HR.out.below hb1 (Nat.le_refl _))
  clear hb1
  go_wp2_with fail
  refine (both_any A n c S w.heap.size w1 HR1.out HB1.out.size hn).mono ?_
  rintro e w2 ⟨D1, c1, rfl, hc1, ho1, hb2⟩
  have HRM := hide (rdB_own ho1)
  have HB2 := hide (HB1.out.trans (hb2.mono HB1.out.size))
  have hn63 : n ≤ 9223372036854775807 := by omega
  clear ho1 hb2
  go_wp2_with fail
  refine (plan_any D1 n c1 S w2.heap.size pages need w2 HRM.out (Nat.le_refl _) hn63).mono ?_
  rintro e w3 ⟨hb3, h3⟩
  have HB3 := hide (HB2.out.trans (hb3.mono HB2.out.size))
  clear hb3 HRM HR1
  rcases h3 with ⟨h3, rfl⟩ | ⟨h3, Z, hp, hs, h⟩
  · clear h3
    unfold errR
    go_wp2_with fail
    go_ret
    exact ⟨rfl, HB3.out⟩
  rcases h with ⟨-, rfl⟩ | ⟨k, A', c', hkZ, hnk, hlt, hkc, hrp, rfl⟩
  · clear h3 hp hs
    unfold errR
    go_wp2_with fail
    go_ret
    exact ⟨rfl, HB3.out⟩
  have HF := hide (flt_zero h3)
  have HLAW : Hid (∀ T, Tak S n k T → k ≠ 0 → sumF S pages T < need) := hide (fun T hT hk0 => fewer hp hs (fun i hi => by have := HF.out.2.2.2.2 i hi; unfold okB at this; exact this.2.1) hkZ hlt hT.nd hT.us (by
    rcases hT.fw with h | h
    · rw [h]; simp; omega
    · exact h))
  have HOK : Hid (∀ i, i < n → 0 ≤ (S i).lv ∧ (S i).lv ≤ pages) := hide (fun i hi => by have := HF.out.2.2.2.2 i hi; unfold okB at this; exact ⟨this.1, this.2.1⟩)
  have HMEM : Hid (∀ j, j < k → ∃ i : Nat, Z.getD j 0 = i ∧ i < n ∧ (S i).u = true) := hide (fun j hj => by
    obtain ⟨i, h1, h2, h3, -⟩ := elig_mem.1 (hp.mem_iff.1 (getD_mem Z j (by omega)))
    exact ⟨i, h1, h2, h3⟩)
  have HBND : Hid (∀ j, j ≤ k → 0 ≤ wonF S pages Z j ∧ wonF S pages Z j ≤ 4096 * j) := hide (fun j hj => wonF_bound S pages Z HF.out.2.2.1 j (fun q hq => by
    obtain ⟨i, h1, h2, -⟩ := HMEM.out q (by omega)
    rw [h1, Int.toNat_natCast]
    exact HOK.out i h2))
  have HWS : Hid (∀ j, wonF S pages Z (j + 1) = wonF S pages Z j + (pages - (S (Z.getD j 0).toNat).lv)) := hide (fun j => by conv => lhs; unfold wonF)
  have HW0 : Hid (wonF S pages Z 0 = 0) := hide (by unfold wonF; rfl)
  have hk64 : k ≤ 64 := by
    have h1 := hp.length_eq
    have h2 := elig_len S pages n
    have h4 := HF.out.1
    omega
  have HNK := hide hnk
  have HRP := hide hrp
  have HKZ := hide hkZ
  have hpg := HF.out.2.1
  have hpg2 := HF.out.2.2.1
  have HR3 := hide (HR.out.below HB3.out (Nat.le_refl _))
  have HRX3 := hide (HRX.out.below HB3.out)
  clear h3 hp hs hlt hnk hrp hkZ HR HRX
  go_wp2_with fail
  go_loopw [13, 14] (fun wo i wr => ∃ j : Nat, i = .int .i64 j ∧ j ≤ k ∧ wo = .int .i64 (wonF S pages Z j) ∧ wr = w3) (fun _ i _ => k - (intOf i).toNat)
  case atStart => exact ⟨0, rfl, by omega, by rw [HW0.out], rfl⟩
  case round =>
    obtain ⟨j, rfl, hj, rfl, hw⟩ := hrel
    obtain rfl := hw.symm
    have hbw := HBND.out j hj
    by_cases hlt : j < k
    · have e1 : decide (j < k) = true := by simpa using hlt
      have e1' : decide ((j : Int) < (k : Int)) = true := by simp; omega
      have hjk : (j : Int) < (k : Int) := by omega
      have hj0 : (0 : Int) ≤ (j : Int) := by omega
      obtain ⟨i, hi1, hi2, hi3⟩ := HMEM.out j hlt
      obtain ⟨bz, oz, rfl, hcz⟩ := HRP.out.at_ (i := j) (by rw [i64v_length, List.length_take]; have := HKZ.out; omega)
      have cz : w3.cell? ⟨bz, oz + j, none⟩ = some (.int .i64 (i : Int)) := by
        have hjz : j < Z.length := by have := HKZ.out; omega
        rw [hcz]
        simp only [i64v, List.getElem_map, List.getElem_take]
        rw [← hi1]
        simp [List.getD_eq_getElem?_getD, hjz]
      obtain ⟨b, off, rfl, hbT, z0, z1, z2⟩ := HR3.out i hi2
      rw [hi3] at z0
      have hlb := HOK.out i hi2
      have HST : Hid (wonF S pages Z (j + 1) = wonF S pages Z j + (pages - (S i).lv)) := hide (by rw [HWS.out, hi1, Int.toNat_natCast])
      obtain ⟨lv, hlv⟩ : ∃ lv, lv = (S i).lv := ⟨_, rfl⟩
      rw [← hlv] at z1 HST hlb
      obtain ⟨wo, hwo⟩ : ∃ wo, wo = wonF S pages Z j := ⟨_, rfl⟩
      rw [← hwo] at hbw HST ⊢
      have hin1 : (i : Int) < (n : Int) := by omega
      have hin0 : (0 : Int) ≤ (i : Int) := by omega
      have d1 : decide ((i : Int) < 0) = false := by simp
      have d2 : decide ((i : Int) ≥ (n : Int)) = false := by simp; omega
      have d2' : decide (n ≤ i) = false := by simp; omega
      have d2'' : decide ((n : Int) ≤ (i : Int)) = false := by simp; omega
      clear hi1 hcz hlv hwo z2
      go_wp2_with fail
      go_roundw
      case rel => exact ⟨j + 1, by go_num, by omega, by rw [HST.out]; first | rfl | (congr 1; omega), trivial⟩
      case measure => simp [intOf]; omega
    · obtain rfl : j = k := by omega
      have e1 : decide (j < j) = false := by simp
      have e1' : decide ((j : Int) < (j : Int)) = false := by simp
      obtain ⟨wo, hwo⟩ : ∃ wo, wo = wonF S pages Z j := ⟨_, rfl⟩
      have HNK2 : Hid (need ≤ wo) := hide (by rw [hwo]; exact HNK.out)
      rw [← hwo]
      have d1 : decide (wo < need) = false := decide_eq_false (by have := HNK2.out; omega)
      clear hwo hbw
      go_wp2_with fail
      have HT0 : Hid (Tak S n j []) := hide Tak.nil
      have HS0 : Hid (sumF S pages [] = 0) := hide (by unfold sumF; rfl)
      go_loopw [15, 16, 17] (fun tk ot i wq => ∃ (q : Nat) (T : List Int) (D : Option Addr) (cc : Nat), i = .int .i64 q ∧ q ≤ m ∧ tk = .slice D T.length cc ∧ T.length ≤ cc ∧ ot = .int .i64 (sumF S pages T) ∧ Hid (Tak S n j T) ∧
        Hid (wq.ownsRow w3.heap.size 3 1 (.slice D T.length cc) T.length (i64v T)) ∧ Hid (Below w3.heap.size w3 wq)) (fun _ _ i _ => m - (intOf i).toNat)
      case atStart => exact ⟨0, [], none, 0, rfl, by omega, rfl, by simp, by rw [HS0.out], HT0, hide (World.ownsRow_nil _ _ _ _), hide (Below.refl _ _)⟩
      case round =>
        obtain ⟨q, T, D, cc, rfl, hq, rfl, hLc, rfl, HT, HO, HB⟩ := hrel
        have hsb := HT.out.bound hpg2 HOK.out
        have hfw := HT.out.fw
        obtain ⟨L, hL⟩ : ∃ L, L = T.length := ⟨_, rfl⟩
        have HTL := hide hL
        have hL64 : L ≤ 64 := by
          rcases hfw with h | h
          · rw [hL, h]; simp
          · omega
        rw [← hL] at hLc hsb HO ⊢
        obtain ⟨SU, hSU⟩ : ∃ SU, SU = sumF S pages T := ⟨_, rfl⟩
        have HSU := hide hSU
        rw [← hSU] at hsb ⊢
        clear hL hSU hfw
        by_cases hlt2 : q < m
        · have f1 : decide (q < m) = true := by simpa using hlt2
          have f1' : decide ((q : Int) < (m : Int)) = true := by simp; omega
          have hqm : (q : Int) < (m : Int) := by omega
          have hq0 : (0 : Int) ≤ (q : Int) := by omega
          by_cases hn0 : n = 0
          · have f2 : decide ((n : Int) > 0) = false := by simp; omega
            have f2' : decide (0 < n) = false := by simp; omega
            clear hn0
            have HBW := hide (HB3.out.trans (HB.out.mono HB3.out.size))
            by_cases hj0 : j = 0
            · subst hj0
              go_wp2_with fail
              go_ret
              exact ⟨rfl, HBW.out⟩
            · have g1 : ((j : Int) == 0) = false := by simp; omega
              have g2 : decide (SU < need) = true := decide_eq_true (by rw [HSU.out]; exact HLAW.out T HT.out hj0)
              clear hj0
              go_wp2_with fail
              go_ret
              exact ⟨rfl, HBW.out⟩
          · have f2 : decide ((n : Int) > 0) = true := by simp; omega
            have f2' : decide (0 < n) = true := by simp; omega
            obtain ⟨bx, ox, rfl, hcx'⟩ := (HRX3.out.below HB.out).at_ (i := q) (by rw [i64v_length, ← HMX.out]; exact hlt2)
            obtain ⟨x, hx⟩ : ∃ x, x = X[q]'(by rw [← HMX.out]; exact hlt2) := ⟨_, rfl⟩
            have hxb : -9223372036854775808 ≤ x ∧ x ≤ 9223372036854775807 := by rw [hx]; exact HXB.out _ (List.getElem_mem _)
            have cx' : wr.cell? ⟨bx, ox + q, none⟩ = some (.int .i64 x) := by
              rw [hcx']
              simp only [i64v, List.getElem_map]
              rw [hx]
            clear hx hcx'
            go_wp2_with fail
            refine (pick_any x n n rfl (by omega) (by omega) hxb.1 hxb.2 wr).mono ?_
            rintro e w5 ⟨rfl, rfl⟩
            have hpl := pickN_lt x n (by omega)
            obtain ⟨y, hy⟩ : ∃ y, y = pickN x n := ⟨_, rfl⟩
            rw [← hy] at hpl ⊢
            clear hy
            have hyi : (y : Int) < (n : Int) := by omega
            have hy0 : (0 : Int) ≤ (y : Int) := by omega
            obtain ⟨b, off, rfl, hbT, z0, z1, z2⟩ := (HR3.out.below (HB.out.mono HB3.out.size) (Nat.le_refl _)) y hpl
            obtain ⟨x0, hx0⟩ : ∃ x0, x0 = (S y).u := ⟨_, rfl⟩
            obtain ⟨x1, hx1⟩ : ∃ x1, x1 = (S y).lv := ⟨_, rfl⟩
            have HX0 := hide hx0
            have HX1 := hide hx1
            have hlb : 0 ≤ x1 ∧ x1 ≤ pages := by rw [hx1]; exact HOK.out y hpl
            rw [← hx0] at z0
            rw [← hx1] at z1
            clear hx0 hx1 z2
            go_wp2_with fail
            go_loopw [19, 20] (fun tw i wz => ∃ (p : Nat) (t : Bool), i = .int .i64 p ∧ p ≤ L ∧ tw = .bool t ∧ Hid (t = true ↔ (y : Int) ∈ T.take p) ∧ wz = wr) (fun _ i _ => L - (intOf i).toNat)
            case atStart => exact ⟨0, false, rfl, by omega, rfl, hide (by simp), rfl⟩
            case round =>
              obtain ⟨p, t, rfl, hp, rfl, HTW, rfl⟩ := hrel
              by_cases hlt3 : p < L
              · have r1 : decide (p < L) = true := by simpa using hlt3
                have r1' : decide ((p : Int) < (L : Int)) = true := by simp; omega
                have hpL : (p : Int) < (L : Int) := by omega
                have hp0 : (0 : Int) ≤ (p : Int) := by omega
                cases t with
                | true =>
                  have HTW2 : Hid (true = true ↔ (y : Int) ∈ T.take (p + 1)) := hide (by
                    have h1 := HTW.out.1 rfl
                    exact ⟨fun _ => (List.take_subset_take_left T (Nat.le_succ p)) h1, fun _ => rfl⟩)
                  go_wp2_with fail
                  go_roundw
                  case rel => exact ⟨p + 1, true, by go_num, by omega, rfl, HTW2, trivial⟩
                  case measure => simp [intOf]; omega
                | false =>
                  obtain ⟨bt, ot, rfl, hct⟩ := (Rd.of_own HO.out).at_ (i := p) (by rw [i64v_length, ← HTL.out]; exact hlt3)
                  obtain ⟨z, hz⟩ : ∃ z, z = T[p]'(by rw [← HTL.out]; exact hlt3) := ⟨_, rfl⟩
                  have ct : wr.cell? ⟨bt, ot + p, none⟩ = some (.int .i64 z) := by
                    rw [hct]
                    simp only [i64v, List.getElem_map]
                    rw [hz]
                  have HZ : Hid (T[p]? = some z) := hide (by rw [hz]; exact List.getElem?_eq_getElem _)
                  have HTW2 : Hid ((z == (y : Int)) = true ↔ (y : Int) ∈ T.take (p + 1)) := hide (by
                    rw [mem_take_succ HZ.out, ← HTW.out]
                    simp)
                  clear hz hct
                  go_wp2_with fail
                  go_roundw
                  case rel => exact ⟨p + 1, z == (y : Int), by go_num, by omega, rfl, HTW2, trivial⟩
                  case measure => simp [intOf]; omega
              · obtain rfl : p = L := by omega
                have r1 : decide (p < p) = false := by simp
                have r1' : decide ((p : Int) < (p : Int)) = false := by simp
                have HTA : Hid (T.take p = T) := hide (List.take_of_length_le (by rw [← HTL.out]; exact Nat.le_refl _))
                rw [HTA.out] at HTW
                cases t with
                | true =>
                  go_wp2_with fail
                  go_roundw
                  case rel => exact ⟨q + 1, T, D, cc, by go_num, by omega, by rw [HTL.out], by rw [← HTL.out]; exact hLc, by rw [HSU.out], HT, by rw [← HTL.out]; exact HO, HB⟩
                  case measure => simp [intOf]; omega
                | false =>
                  cases x0 with
                  | false =>
                    go_wp2_with fail
                    go_roundw
                    case rel => exact ⟨q + 1, T, D, cc, by go_num, by omega, by rw [HTL.out], by rw [← HTL.out]; exact hLc, by rw [HSU.out], HT, by rw [← HTL.out]; exact HO, HB⟩
                    case measure => simp [intOf]; omega
                  | true =>
                    by_cases hge : j ≤ p + 1
                    · have u1 : decide ((p : Int) + 1 ≥ (j : Int)) = true := by simp; omega
                      have u1' : decide ((j : Int) ≤ (p : Int) + 1) = true := by simp; omega
                      clear hge
                      go_wp2_with fail
                      go_roundw
                      case rel => exact ⟨q + 1, T, D, cc, by go_num, by omega, by rw [HTL.out], by rw [← HTL.out]; exact hLc, by rw [HSU.out], HT, by rw [← HTL.out]; exact HO, HB⟩
                      case measure => simp [intOf]; omega
                    · have u1 : decide ((p : Int) + 1 ≥ (j : Int)) = false := by simp; omega
                      have u1' : decide ((j : Int) ≤ (p : Int) + 1) = false := by simp; omega
                      have HNT : Hid (Tak S n j (T ++ [(y : Int)])) := hide (HT.out.snoc hpl HX0.out.symm (fun h => by have := HTW.out.2 h; cases this) (by rw [← HTL.out]; omega))
                      have HSS : Hid (sumF S pages (T ++ [(y : Int)]) = SU + pages - x1) := hide (by rw [sumF_snoc, ← HSU.out, HX1.out, Int.toNat_natCast]; omega)
                      have HLN : Hid ((T ++ [(y : Int)]).length = p + 1) := hide (by rw [List.length_append, ← HTL.out]; rfl)
                      clear hge
                      have HOA := hide (HO.out.alloc (.cells #[.int .i64 (y : Int)] 3))
                      have HBA := hide (HB.out.alloc HB.out.size (.cells #[.int .i64 (y : Int)] 3))
                      have z1a := HBA.out
                      have z1' : ∀ w', Below w3.heap.size wr w' → w'.cell? ⟨b, off + y * 3 + 1, none⟩ = some (.int .i64 x1) := fun w' h => (h.cell (p := ⟨b, _, none⟩) (Nat.lt_of_lt_of_le hbT HB3.out.size)).trans z1
                      have HZ1 := hide z1'
                      clear z1a z1'
                      go_wp2_with (first
                        | (at_builtin
                           refine wpList_int _ rfl (.tmp 141) (.tmp 143) rfl w3.heap.size _ p T rfl HOA.out _ (y : Int) rfl (Rd.one _ _ _) (by omega) HBA.out.size ?_
                           intro A6 c6 w6 hc6 hown6 hb6
                           have HB6 := hide (HBA.out.trans hb6)
                           have z6 := HZ1.out _ (((Below.refl _ wr).alloc HB.out.size (.cells #[.int .i64 (y : Int)] 3)).trans hb6)
                           have HO6 := hide hown6
                           clear hown6 hb6))
                      go_roundw
                      case rel => exact ⟨q + 1, T ++ [(y : Int)], A6, c6, by go_num, by omega, by rw [HLN.out], by rw [HLN.out]; exact hc6, by rw [HSS.out], HNT, by rw [HLN.out]; exact HO6, HB6⟩
                      case measure => simp [intOf]; omega
        · obtain rfl : q = m := by omega
          have f1 : decide (q < q) = false := by simp
          have f1' : decide ((q : Int) < (q : Int)) = false := by simp
          have HBW := hide (HB3.out.trans (HB.out.mono HB3.out.size))
          by_cases hj0 : j = 0
          · subst hj0
            go_wp2_with fail
            go_ret
            exact ⟨rfl, HBW.out⟩
          · have g1 : ((j : Int) == 0) = false := by simp; omega
            have g2 : decide (SU < need) = true := decide_eq_true (by rw [HSU.out]; exact HLAW.out T HT.out hj0)
            clear hj0
            go_wp2_with fail
            go_ret
            exact ⟨rfl, HBW.out⟩
end Go.Proofs.Ytndiionpijjdbaa.SwW
