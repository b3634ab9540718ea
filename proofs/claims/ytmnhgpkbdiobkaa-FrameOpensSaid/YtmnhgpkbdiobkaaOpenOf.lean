/- The walk of granaryref1.OpenOf. -/
import Derived.Test.YtmnhgpkbdiobkaaOpenPlain
import Derived.Test.YtmnhgpkbdiobkaaPackOf
import Derived.Test.YtmnhgpkbdiobkaaRefLow
set_option linter.unusedVariables false
namespace Go.Proofs.Ytmnhgpkbdiobkaa.OpenW
open Go.RowKit PutW CrcW Fram Crc PackW FrameW GetW ApartW RefW

theorem ofLow_lba (l : List UInt8) (b o k c : Nat) (w : World) (hk : k = 4) (h : 24 ≤ l.length) (hr : Rd w (some ⟨b, o, none⟩) (u8v l)) :
    Calls Try.prog 37 #[.slice (some ⟨b, o + 2, none⟩) k c] w fun e w' => e = .returned (.int .i64 (lbaOf l)) ∧ w = w' := by
  have hl := lbaOf_lt l
  unfold lbaOf at hl ⊢
  exact ofLow_any _ ((l.drop 2).take 4) k c w (by simp; omega) (by simp; omega) (by omega) (by simp; omega) (rd_sub hr 2 4)
theorem ofLow_seq (l : List UInt8) (b o k c : Nat) (w : World) (hk : k = 8) (h : 24 ≤ l.length) (hs : seqOf l < 9223372036854775808) (hr : Rd w (some ⟨b, o, none⟩) (u8v l)) :
    Calls Try.prog 37 #[.slice (some ⟨b, o + 6, none⟩) k c] w fun e w' => e = .returned (.int .i64 (seqOf l)) ∧ w = w' := by
  unfold seqOf at hs ⊢
  exact ofLow_any _ ((l.drop 6).take 8) k c w (by simp; omega) (by simp; omega) hs (by simp; omega) (rd_sub hr 6 8)
theorem ofLow_long (l : List UInt8) (b o k c : Nat) (w : World) (hk : k = 2) (h : 24 ≤ l.length) (hr : Rd w (some ⟨b, o, none⟩) (u8v l)) :
    Calls Try.prog 37 #[.slice (some ⟨b, o + 14, none⟩) k c] w fun e w' => e = .returned (.int .i64 (longOf l)) ∧ w = w' := by
  have hl := longOf_lt l
  unfold longOf at hl ⊢
  exact ofLow_any _ ((l.drop 14).take 2) k c w (by simp; omega) (by simp; omega) (by omega) (by simp; omega) (rd_sub hr 14 2)

theorem top_page {l : List UInt8} (h : 24 ≤ l.length) : ((l.getD 13 0).toNat > 127 ↔ 9223372036854775808 ≤ seqOf l) := by
  have e1 : (l.drop 6).take 8 = (l.drop 6).take 7 ++ [l.getD 13 0] := by
    rw [List.take_succ_eq_append_getElem (show 7 < (l.drop 6).length by simp; omega)]
    simp [List.getD, show 13 < l.length by omega]
  have e2 : seqOf l = leN ((l.drop 6).take 7) + (l.getD 13 0).toNat * 72057594037927936 := by
    unfold seqOf
    rw [e1, leN_snoc]
    rw [show ((l.drop 6).take 7).length = 7 by simp; omega]
  have h2 := leN_lt ((l.drop 6).take 7)
  rw [show ((l.drop 6).take 7).length = 7 by simp; omega] at h2
  have h3 : (256 : Nat) ^ 7 = 72057594037927936 := by decide
  omega
theorem seqI_of {l : List UInt8} (h : seqOf l < 9223372036854775808) : seqI l = (seqOf l : Int) := by
  unfold seqI; rw [IntKind.wrap_i64]; omega
theorem seqI_neg {l : List UInt8} (h : 9223372036854775808 ≤ seqOf l) : seqI l < 0 := by
  have h1 : seqOf l < 18446744073709551616 := by
    unfold seqOf
    have h := leN_lt ((l.drop 6).take 8)
    have h2 : (256 : Nat) ^ ((l.drop 6).take 8).length ≤ 256 ^ 8 := Nat.pow_le_pow_right (by omega) (by simp; omega)
    have : (256 : Nat) ^ 8 = 18446744073709551616 := by decide
    omega
  unfold seqI; rw [IntKind.wrap_i64]; omega

theorem blank_succ {l : List UInt8} {i : Nat} (h : i < l.length) : ((l.take (i + 1)).count 255 = i + 1 ↔ (l.take i).count 255 = i ∧ l[i] = 255) := by
  rw [List.take_succ_eq_append_getElem h, List.count_append]
  have h1 := List.count_le_length (a := (255 : UInt8)) (l := l.take i)
  have h2 : (l.take i).length = i := by simp; omega
  by_cases e : l[i] = 255
  · simp [e]
  · rw [List.count_singleton]
    have : (l[i] == 255) = false := by simpa using e
    rw [this]
    simp [e]
    omega

/-- How OpenOf goes out. -/
theorem ret_openOf (w : World) (g : Nat) (a : Act) (k1 l1 s1 : Int) (B : Option Addr) (m c : Nat) (st : Int) (Q : Ending → World → Prop) (h2 : a.tmps[2]?.getD undef = .pointer (some ⟨g, 0, none⟩)) (h3 : a.tmps[3]?.getD undef = .int .i64 st) (hd : a.defers = [])
    (hB : Bk w g 28 #[.int .i64 k1, .int .i64 l1, .int .i64 s1, .slice B m c]) (hq : Q (.returned (.tuple #[frV k1 l1 s1 B m c, .int .i64 st])) w) : bodyPost Try.prog Try.f23 Q .ret a w := by
  have c0 := hB.at_ (i := 0) (u := .int .i64 k1) rfl
  have c1 := hB.at_ (i := 1) (u := .int .i64 l1) rfl
  have c2 := hB.at_ (i := 2) (u := .int .i64 s1) rfl
  have c3 := hB.at_ (i := 3) (u := .slice B m c) rfl
  refine bodyPost_ret (v := .tuple #[frV k1 l1 s1 B m c, .int .i64 st]) ?_ hd hq
  unfold frV
  simp [results, Try.results23, go_sem, c0, c1, c2, c3, h2, h3]

def OpenOfPost (w : World) (l : List UInt8) (n : Nat) (e : Ending) (w' : World) : Prop := Below w.heap.size w w' ∧
      ((¬ Good l n ∧ ∃ st : Int, e = .returned (.tuple #[noFrame, .int .i64 st]) ∧ ((0 < n ∧ l.count 255 = n ∧ st = 1) ∨ (¬ (0 < n ∧ l.count 255 = n) ∧ st = 3))) ∨
      (Good l n ∧ ∃ B c', e = .returned (.tuple #[frV (kindOf l) (lbaOf l) (seqI l) B (longOf l) c', .int .i64 2]) ∧ longOf l ≤ c' ∧ Rd w' B (u8v (dataOf l))))

attribute [local irreducible] pack kindOf lbaOf seqOf seqI longOf dataOf

set_option maxRecDepth 100000 in
set_option maxHeartbeats 4000000 in
theorem openOf_any (A : Option Addr) (l : List UInt8) (n c : Nat) (w : World) (hn : n = l.length) (hnc : n ≤ c) (hcm : c ≤ 9223372036854775807) (hr : Rd w A (u8v l)) :
    Calls Try.prog 23 #[.slice A n c] w (OpenOfPost w l n) := by
  have HN := hide hn
  have hb0 : Below w.heap.size w (w.alloc (.cells #[.int .i64 0, .int .i64 0, .int .i64 0, .slice none 0 0] 28)) := (Below.refl _ _).alloc (Nat.le_refl _) _
  have hR := w1_res w
  have hrr := hr.below hb0
  clear hn
  go_enter Try.func23, Try.ntmps23
  go_wp2_with fail
  generalize w.alloc (.cells #[.int .i64 0, .int .i64 0, .int .i64 0, .slice none 0 0] 28) = w1 at hb0 hR hrr ⊢
  obtain ⟨g, hg⟩ : ∃ g, g = w.heap.size := ⟨_, rfl⟩
  rw [← hg] at hR ⊢
  have HG := hide hg
  have hlt := hR.lt
  clear hg
  go_loop [5, 6] (fun v i => ∃ (j : Nat) (bl : Bool), j ≤ n ∧ i = .int .i64 j ∧ v = .bool bl ∧ Hid (bl = decide (0 < n ∧ (l.take j).count 255 = j))) (fun _ i => n - (intOf i).toNat)
  case atStart => exact ⟨0, decide (0 < n), by omega, rfl, by first | rfl | (congr 1; simp) | simp, hide (by simp)⟩
  case round =>
    obtain ⟨j, bl, hj, rfl, rfl, HB⟩ := hrel
    by_cases hlt2 : j < n
    · have hd : decide ((j : Int) < (n : Int)) = true := by simp; omega
      obtain ⟨b, off, rfl, hck⟩ := hrr.at_ (i := j) (by rw [u8v_length, ← HN.out]; exact hlt2)
      have hjl : j < l.length := by rw [← HN.out]; exact hlt2
      simp only [u8v, List.getElem_map] at hck
      have HS := hide (blank_succ hjl)
      cases bl with
      | false =>
        have HB2 : Hid (false = decide (0 < n ∧ (l.take (j + 1)).count 255 = j + 1)) := by
          refine hide (decide_eq_false ?_).symm
          rintro ⟨h1, h2⟩
          exact of_decide_eq_false HB.out.symm ⟨h1, (HS.out.1 h2).1⟩
        go_wp2_with fail
        go_round
        case rel => exact ⟨j + 1, false, by omega, by go_num, rfl, HB2⟩
        case measure => simp [intOf]; omega
      | true =>
        by_cases he : l[j] = 255
        · have HB2 : Hid (true = decide (0 < n ∧ (l.take (j + 1)).count 255 = j + 1)) := by
            refine hide (decide_eq_true ?_).symm
            have := of_decide_eq_true HB.out.symm
            exact ⟨this.1, HS.out.2 ⟨this.2, he⟩⟩
          have ht : ((l[j].toNat : Int) == 255) = true := by rw [he]; rfl
          clear he
          go_wp2_with fail
          go_round
          case rel => exact ⟨j + 1, true, by omega, by go_num, rfl, HB2⟩
          case measure => simp [intOf]; omega
        · have HB2 : Hid (false = decide (0 < n ∧ (l.take (j + 1)).count 255 = j + 1)) := by
            refine hide (decide_eq_false ?_).symm
            rintro ⟨h1, h2⟩
            exact he (HS.out.1 h2).2
          have ht : ((l[j].toNat : Int) == 255) = false := by
            rw [beq_eq_false_iff_ne]
            intro e
            exact he (UInt8.toNat_inj.1 (by have e2 : ((255 : UInt8)).toNat = 255 := rfl; omega))
          clear he
          go_wp2_with fail
          go_round
          case rel => exact ⟨j + 1, false, by omega, by go_num, rfl, HB2⟩
          case measure => simp [intOf]; omega
    · obtain rfl : j = n := by omega
      have HC : Hid (bl = decide (0 < j ∧ l.count 255 = j)) := hide (by rw [HB.out, List.take_of_length_le (by rw [← HN.out]; exact Nat.le_refl _)])
      clear HB
      cases bl with
      | true =>
        have hc := of_decide_eq_true HC.out.symm
        have HE : Hid (¬ Good l j ∧ 0 < j ∧ l.count 255 = j) := by
          refine hide ⟨fun hgd => ?_, hc⟩
          have h0 := (good_ends hgd).2.2.2.1
          have h2 := List.count_eq_length.1 (hc.2.trans HN.out) (l.getD 0 0) (by rw [show l.getD 0 0 = l[0]'(by have := HN.out; omega) from by simp [List.getD, show 0 < l.length by have := HN.out; omega]]; exact List.getElem_mem _)
          rw [h0] at h2
          exact absurd h2 (by decide)
        clear hc
        have q0 := hR.at_ (i := 0) (u := .int .i64 0) rfl
        have q1 := hR.at_ (i := 1) (u := .int .i64 0) rfl
        have q2 := hR.at_ (i := 2) (u := .int .i64 0) rfl
        have q3 := hR.at_ (i := 3) (u := .slice none 0 0) rfl
        have f0 := hR.free 0
        have f1 := hR.free 1
        have f2 := hR.free 2
        have f3 := hR.free 3
        go_wp2_with fail
        refine ret_openOf _ g _ 0 0 0 none 0 0 1 _ rfl rfl rfl ((((hR.put 0 (.int .i64 0)).put 1 (.int .i64 0)).put 2 (.int .i64 0)).put 3 (.slice none 0 0)) ⟨?_, .inl ⟨HE.out.1, 1, rfl, .inl ⟨HE.out.2.1, HE.out.2.2, rfl⟩⟩⟩
        exact (((hb0.setCell (p := ⟨g, 0, none⟩) (by rw [HG.out]; exact Nat.le_refl _) (.int .i64 0)).setCell (p := ⟨g, 1, none⟩) (by rw [HG.out]; exact Nat.le_refl _) (.int .i64 0)).setCell (p := ⟨g, 2, none⟩) (by rw [HG.out]; exact Nat.le_refl _) (.int .i64 0)).setCell (p := ⟨g, 3, none⟩) (by rw [HG.out]; exact Nat.le_refl _) (.slice none 0 0)
      | false =>
        have HNB : Hid (¬ (0 < j ∧ l.count 255 = j)) := hide (of_decide_eq_false HC.out.symm)
        clear HC
        have q0 := hR.at_ (i := 0) (u := .int .i64 0) rfl
        have q1 := hR.at_ (i := 1) (u := .int .i64 0) rfl
        have q2 := hR.at_ (i := 2) (u := .int .i64 0) rfl
        have q3 := hR.at_ (i := 3) (u := .slice none 0 0) rfl
        have f0 := hR.free 0
        have f1 := hR.free 1
        have f2 := hR.free 2
        have f3 := hR.free 3
        have HBR : Hid (∀ w', Bk w' g 28 #[.int .i64 0, .int .i64 0, .int .i64 0, .slice none 0 0] → Below w.heap.size w w' → ¬ Good l j → OpenOfPost w l j (.returned (.tuple #[noFrame, .int .i64 3])) ((((w'.setCell ⟨g, 0, none⟩ (.int .i64 0)).setCell ⟨g, 1, none⟩ (.int .i64 0)).setCell ⟨g, 2, none⟩ (.int .i64 0)).setCell ⟨g, 3, none⟩ (.slice none 0 0))) := by
          refine hide fun w' _ hbx hng => ⟨?_, .inl ⟨hng, 3, rfl, .inr ⟨HNB.out, rfl⟩⟩⟩
          exact (((hbx.setCell (p := ⟨g, 0, none⟩) (by rw [HG.out]; exact Nat.le_refl _) (.int .i64 0)).setCell (p := ⟨g, 1, none⟩) (by rw [HG.out]; exact Nat.le_refl _) (.int .i64 0)).setCell (p := ⟨g, 2, none⟩) (by rw [HG.out]; exact Nat.le_refl _) (.int .i64 0)).setCell (p := ⟨g, 3, none⟩) (by rw [HG.out]; exact Nat.le_refl _) (.slice none 0 0)
        by_cases h24 : j < 24
        · have HNG : Hid (¬ Good l j) := hide fun hgd => by have := (good_ends hgd).2.1; omega
          go_wp2_with fail
          exact ret_openOf _ g _ 0 0 0 none 0 0 3 _ rfl rfl rfl ((((hR.put 0 (.int .i64 0)).put 1 (.int .i64 0)).put 2 (.int .i64 0)).put 3 (.slice none 0 0)) (HBR.out _ hR hb0 HNG.out)
        have h24' : 24 ≤ j := by omega
        clear h24
        by_cases hmx : 4096 < j
        · have HNG : Hid (¬ Good l j) := hide fun hgd => by have := (good_ends hgd).2.2.1; omega
          have hmx' : (4096 : Int) < (j : Int) := by omega
          go_wp2_with fail
          exact ret_openOf _ g _ 0 0 0 none 0 0 3 _ rfl rfl rfl ((((hR.put 0 (.int .i64 0)).put 1 (.int .i64 0)).put 2 (.int .i64 0)).put 3 (.slice none 0 0)) (HBR.out _ hR hb0 HNG.out)
        have hmx' : j ≤ 4096 := by omega
        clear hmx
        obtain ⟨b, o, rfl, hbw, hcell⟩ := hrr.form (by rw [u8v_length, ← HN.out]; omega)
        have hl24 : 24 ≤ l.length := by rw [← HN.out]; exact h24'
        have htop := top_page hl24
        have hc13 : w1.cell? ⟨b, o + 13, none⟩ = some (.int .u8 ((l.getD 13 0).toNat : Int)) := by
          have := hcell 13 (by rw [u8v_length]; omega)
          rw [this]
          simp [u8v, List.getD, show 13 < l.length by omega]
        have hc1 : w1.cell? ⟨b, o + 1, none⟩ = some (.int .u8 (kindOf l)) := by
          have := hcell 1 (by rw [u8v_length]; omega)
          rw [this]
          unfold kindOf
          simp [u8v, List.getD, show 1 < l.length by omega]
        have hk0 : 0 ≤ kindOf l ∧ kindOf l ≤ 255 := by
          unfold kindOf
          have := (l.getD 1 0).toNat_lt
          omega
        obtain ⟨z, hz⟩ : ∃ z, z = (l.getD 13 0).toNat := ⟨_, rfl⟩
        rw [← hz] at hc13 htop
        have hzl : z < 256 := by have := (l.getD 13 0).toNat_lt; omega
        have HL24 := hide hl24
        have HTOP := hide htop
        have hj13 : (13 : Int) < (j : Int) := by omega
        have hj1 : (1 : Int) < (j : Int) := by omega
        clear hz hcell hl24 htop hr
        by_cases h13 : 127 < z
        · have HNG : Hid (¬ Good l j) := hide fun hgd => by
            have h1 := seqI_neg (HTOP.out.1 h13)
            have h2 := hgd.2.1.2.2.2.2.2.2.1
            omega
          have h13' : (127 : Int) < (z : Int) := by omega
          clear h13
          go_wp2_with fail
          exact ret_openOf _ g _ 0 0 0 none 0 0 3 _ rfl rfl rfl ((((hR.put 0 (.int .i64 0)).put 1 (.int .i64 0)).put 2 (.int .i64 0)).put 3 (.slice none 0 0)) (HBR.out _ hR hb0 HNG.out)
        have h13' : ¬ (127 : Int) < (z : Int) := by omega
        have HSQL : Hid (seqOf l < 9223372036854775808) := hide (by have := HTOP.out; omega)
        have HSQI := hide (seqI_of HSQL.out)
        clear h13
        have x0 : IntKind.i64.wrap (kindOf l) = kindOf l := by rw [IntKind.wrap_i64]; omega
        have y1 : ¬ c = 2 := by omega
        have y2 : ¬ c = 6 := by omega
        have y3 : ¬ c = 14 := by omega
        have y5 : ¬ c = 20 := by omega
        have z1 : (6 : Int) ≤ (c : Int) := by omega
        have z2 : (14 : Int) ≤ (c : Int) := by omega
        have z3 : (16 : Int) ≤ (c : Int) := by omega
        go_wp2_with fail
        have hF2 := Bk.new w1 28 #[.int .i64 (kindOf l), .int .i64 0, .int .i64 0, .slice none 0 0]
        have hR2 := hR.alloc (.cells #[.int .i64 (kindOf l), .int .i64 0, .int .i64 0, .slice none 0 0] 28)
        have hr2 := hrr.alloc (.cells #[.int .i64 (kindOf l), .int .i64 0, .int .i64 0, .slice none 0 0] 28)
        have hb2 := hb0.alloc hb0.size (.cells #[.int .i64 (kindOf l), .int .i64 0, .int .i64 0, .slice none 0 0] 28)
        have hwG : w.heap.size ≤ w1.heap.size := hb0.size
        generalize w1.alloc (.cells #[.int .i64 (kindOf l), .int .i64 0, .int .i64 0, .slice none 0 0] 28) = w2 at hF2 hR2 hr2 hb2 ⊢
        clear q0 q1 q2 q3 f0 f1 f2 f3 hc1 hc13 hrr hR hb0
        obtain ⟨G, hG⟩ : ∃ G, G = w1.heap.size := ⟨_, rfl⟩
        rw [← hG] at hF2 hbw hlt hwG
        rw [← hG]
        clear hG
        have hne : ¬ g = G := by omega
        have hne' : ¬ G = g := by omega
        obtain ⟨L, hL0⟩ : ∃ L, L = longOf l := ⟨_, rfl⟩
        obtain ⟨sq, hsq⟩ : ∃ sq : Int, sq = (seqOf l : Int) := ⟨_, rfl⟩
        obtain ⟨lb, hlb⟩ : ∃ lb : Int, lb = (lbaOf l : Int) := ⟨_, rfl⟩
        have hLl : L < 65536 := by rw [hL0]; exact longOf_lt l
        have HLL := hide hL0
        have HSQ := hide hsq
        have HLB := hide hlb
        have hsq0 : 0 ≤ sq := by omega
        have hlb0 : 0 ≤ lb := by omega
        clear hL0 hsq hlb
        refine (ofLow_lba l b o _ _ _ rfl HL24.out hr2).mono ?_
        rintro e w3 ⟨rfl, rfl⟩
        rw [← HLB.out]
        have d1 := hF2.at_ (i := 1) (u := .int .i64 0) rfl
        have fr1 := hF2.free 1
        go_wp2_with fail
        have hF3 := hF2.put 1 (.int .i64 lb)
        have hR3 := hR2.far (p := ⟨G, 1, none⟩) hne (.int .i64 lb)
        have hr3 := rd_far hr2 (p := ⟨G, 1, none⟩) (.int .i64 lb) (fun k o hk hx e => by injection hk with hk; injection hk with hk; simp at e; omega)
        have hb3 := hb2.setCell (p := ⟨G, 1, none⟩) hwG (.int .i64 lb)
        generalize w2.setCell ⟨G, 1, none⟩ (.int .i64 lb) = w3 at hF3 hR3 hr3 hb3 ⊢
        clear d1 fr1 hF2 hR2 hr2 hb2
        refine (ofLow_seq l b o _ _ _ rfl HL24.out HSQL.out hr3).mono ?_
        rintro e w4 ⟨rfl, rfl⟩
        rw [← HSQ.out]
        have d2 := hF3.at_ (i := 2) (u := .int .i64 0) rfl
        have fr2 := hF3.free 2
        go_wp2_with fail
        have hF4 := hF3.put 2 (.int .i64 sq)
        have hR4 := hR3.far (p := ⟨G, 2, none⟩) hne (.int .i64 sq)
        have hr4 := rd_far hr3 (p := ⟨G, 2, none⟩) (.int .i64 sq) (fun k o hk hx e => by injection hk with hk; injection hk with hk; simp at e; omega)
        have hb4 := hb3.setCell (p := ⟨G, 2, none⟩) hwG (.int .i64 sq)
        generalize w3.setCell ⟨G, 2, none⟩ (.int .i64 sq) = w4 at hF4 hR4 hr4 hb4 ⊢
        clear d2 fr2 hF3 hR3 hr3 hb3
        refine (ofLow_long l b o _ _ _ rfl HL24.out hr4).mono ?_
        rintro e w5 ⟨rfl, rfl⟩
        rw [← HLL.out]
        by_cases hL : L + 21 ≤ j
        rotate_left
        · have HNG : Hid (¬ Good l j) := hide fun hgd => by have := hgd.1; have := HLL.out; omega
          have hL' : (j : Int) - 21 < (L : Int) := by omega
          have q0 := hR4.at_ (i := 0) (u := .int .i64 0) rfl
          have q1 := hR4.at_ (i := 1) (u := .int .i64 0) rfl
          have q2 := hR4.at_ (i := 2) (u := .int .i64 0) rfl
          have q3 := hR4.at_ (i := 3) (u := .slice none 0 0) rfl
          have f0 := hR4.free 0
          have f1 := hR4.free 1
          have f2 := hR4.free 2
          have f3 := hR4.free 3
          clear hL
          go_wp2_with fail
          exact ret_openOf _ g _ 0 0 0 none 0 0 3 _ rfl rfl rfl ((((hR4.put 0 (.int .i64 0)).put 1 (.int .i64 0)).put 2 (.int .i64 0)).put 3 (.slice none 0 0)) (HBR.out _ hR4 hb4 HNG.out)
        have hL' : ¬ (j : Int) - 21 < (L : Int) := by omega
        have x1 : (20 + (L : Int)).toNat = 20 + L := by omega
        have x3 : 20 + (L : Int) ≤ (c : Int) := by omega
        have x6 : 20 + L - 20 = L := by omega
        have x8 : (0 : Int) ≤ 20 + (L : Int) := by omega
        have x10 : (20 : Int) ≤ 20 + (L : Int) := by omega
        have HDL : Hid (L = (dataOf l).length) := hide (by rw [HLL.out]; exact data_length (by rw [← HLL.out, ← HN.out]; omega))
        have hrd4 : Rd w4 (some ⟨b, o + 20, none⟩) (u8v (dataOf l)) := rd_data hr4
        have hltG := hF4.lt
        have hltg := hR4.lt
        have d3 := (hF4.alloc (.cells #[] 5)).at_ (i := 3) (u := .slice none 0 0) rfl
        go_wp2_with (first
          | (at_builtin
             refine wpList_app _ rfl _ _ rfl w4.heap.size _ 0 [] rfl (by exact own_empty w4) (some ⟨b, o + 20, none⟩) L (c - 20) (dataOf l) rfl HDL.out (by exact hrd4.alloc _) (by omega) (by simp) ?_
             intro B6 k6 w6 hk6 ho6 hb6'
             have hb46 : Below w4.heap.size w4 w6 := ((Below.refl _ w4).alloc (Nat.le_refl _) _).trans hb6'
             have hF6 := hF4.below hb46 hltG
             have hR6 := hR4.below hb46 hltg
             have hr6 := hr4.below hb46
             have hb6 := hb4.trans (hb46.mono hb4.size)
             have d0 := hF6.at_ (i := 0) (u := .int .i64 (kindOf l)) rfl
             have d1 := hF6.at_ (i := 1) (u := .int .i64 lb) rfl
             have d2 := hF6.at_ (i := 2) (u := .int .i64 sq) rfl
             have d3 := hF6.at_ (i := 3) (u := .slice none 0 0) rfl
             have fr3 := hF6.free 3
             have hrB6 := own_rd ho6
             have HBF : Hid (∀ k o, B6 = some ⟨k, o, none⟩ → u8v ([] ++ dataOf l) ≠ [] → G < k ∧ g < k) := by
               refine hide fun k o hk hx => ?_
               have hpos : 0 < 0 + L := by
                 rcases Nat.eq_zero_or_pos L with h | h
                 · exfalso
                   apply hx
                   rw [List.nil_append]
                   exact List.eq_nil_of_length_eq_zero (by rw [u8v_length, ← HDL.out]; exact h)
                 · omega
               obtain ⟨g', hg', hle, _⟩ := own_at ho6 hpos
               rw [hk] at hg'
               injection hg' with hg'
               injection hg' with hg'
               omega))
        have hF7 := hF6.put 3 (.slice B6 (0 + L) k6)
        have hR7 := hR6.far (p := ⟨G, 3, none⟩) hne (.slice B6 (0 + L) k6)
        have hr7 := rd_far hr6 (p := ⟨G, 3, none⟩) (.slice B6 (0 + L) k6) (fun k o hk hx e => by injection hk with hk; injection hk with hk; simp at e; omega)
        have hrB7 := rd_far hrB6 (p := ⟨G, 3, none⟩) (.slice B6 (0 + L) k6) (fun k o hk hx e => by have := HBF.out k o hk hx; simp at e; omega)
        have hb7 := hb6.setCell (p := ⟨G, 3, none⟩) hwG (.slice B6 (0 + L) k6)
        simp only [Nat.zero_add] at hF7 hR7 hr7 hrB7 hb7
        rw [List.nil_append] at hrB7
        generalize w6.setCell ⟨G, 3, none⟩ (.slice B6 L k6) = w7 at hF7 hR7 hr7 hrB7 hb7 ⊢
        have hltG7 := hF7.lt
        have hltg7 := hR7.lt
        clear d0 d1 d2 d3 fr3 hF6 hR6 hr6 hb6 hb46 hb6' ho6 hF4 hR4 hr4 hb4 hrd4
        by_cases hfit : Fits j L (kindOf l) lb sq
        rotate_left
        · have HNG : Hid (¬ Good l j) := hide fun hgd => by
            have h2 := hgd.2.1
            rw [HSQI.out, ← HSQ.out, ← HLL.out, ← HLB.out] at h2
            exact hfit h2
          have HFI := hide hfit
          clear hfit
          refine (packFault_range j (kindOf l) lb sq B6 L k6 _ HFI.out).mono ?_
          rintro e w8 ⟨rfl, hb8⟩
          have hR8 := hR7.below hb8 hltg7
          have hb08 := hb7.trans (hb8.mono hb7.size)
          have q0 := hR8.at_ (i := 0) (u := .int .i64 0) rfl
          have q1 := hR8.at_ (i := 1) (u := .int .i64 0) rfl
          have q2 := hR8.at_ (i := 2) (u := .int .i64 0) rfl
          have q3 := hR8.at_ (i := 3) (u := .slice none 0 0) rfl
          have f0 := hR8.free 0
          have f1 := hR8.free 1
          have f2 := hR8.free 2
          have f3 := hR8.free 3
          go_wp2_with fail
          exact ret_openOf _ g _ 0 0 0 none 0 0 3 _ rfl rfl rfl ((((hR8.put 0 (.int .i64 0)).put 1 (.int .i64 0)).put 2 (.int .i64 0)).put 3 (.slice none 0 0)) (HBR.out _ hR8 hb08 HNG.out)
        have hfit' := hfit
        obtain ⟨o1, o2, o3, o4, o5, o6, o7, o8⟩ := hfit'
        have HFI := hide hfit
        clear hfit
        refine (packFault_ok j (kindOf l) lb sq B6 L k6 _ HFI.out (by omega)).mono ?_
        rintro e w8 ⟨rfl, hb8⟩
        have hR8 := hR7.below hb8 hltg7
        have hF8 := hF7.below hb8 hltG7
        have hr8 := hr7.below hb8
        have hrB8 := hrB7.below hb8
        have hb08 := hb7.trans (hb8.mono hb7.size)
        have hltG8 := hF8.lt
        have hltg8 := hR8.lt
        have d0 := hF8.at_ (i := 0) (u := .int .i64 (kindOf l)) rfl
        have d1 := hF8.at_ (i := 1) (u := .int .i64 lb) rfl
        have d2 := hF8.at_ (i := 2) (u := .int .i64 sq) rfl
        have d3 := hF8.at_ (i := 3) (u := .slice B6 L k6) rfl
        clear hF7 hR7 hr7 hrB7 hb7 hb8 hltG7 hltg7
        go_wp2_with fail
        refine (packOf_any j (kindOf l) lb sq B6 (dataOf l) L k6 _ h24' hmx' o3 o4 o5 o6 o7 o8 HDL.out hL hrB8).mono ?_
        rintro e w9 ⟨B9, k9, rfl, hk9, ho9, hb9⟩
        have hr9 := own_rd ho9
        have hR9 := hR8.below hb9 hltg8
        have hF9 := hF8.below hb9 hltG8
        have hrP9 := hr8.below hb9
        have hrB9 := hrB8.below hb9
        have hb09 := hb08.trans (hb9.mono hb08.size)
        have HPL := hide (pack_length j (kindOf l).toNat lb.toNat sq.toNat (dataOf l) (by rw [← HDL.out]; omega)).symm
        have HPK : Hid (pack j (kindOf l).toNat lb.toNat sq.toNat (dataOf l) = pack j (kindOf l).toNat (lbaOf l) (seqI l).toNat (dataOf l)) := hide (by rw [HSQI.out, ← HSQ.out, HLB.out, Int.toNat_natCast])
        clear d0 d1 d2 d3 hF8 hR8 hr8 hrB8 hb08 hb9 hltG8 hltg8 ho9
        by_cases heq : pack j (kindOf l).toNat lb.toNat sq.toNat (dataOf l) = l
        rotate_left
        · have HNG : Hid (¬ Good l j) := hide fun hgd => heq (HPK.out.trans hgd.2.2)
          have HRES := hide (show false = decide (pack j (kindOf l).toNat lb.toNat sq.toNat (dataOf l) = l) from (decide_eq_false heq).symm)
          clear heq
          go_wp2_with fail
          refine (same_any B9 (some ⟨b, o, none⟩) _ l j j k9 c _ HPL.out HN.out (by omega) hr9 hrP9 _ HRES.out).mono ?_
          rintro e w10 ⟨rfl, dd, rfl⟩
          have hR10 := hR9.drewN dd
          have hb10 := below_drewN hb09 dd
          have q0 := hR10.at_ (i := 0) (u := .int .i64 0) rfl
          have q1 := hR10.at_ (i := 1) (u := .int .i64 0) rfl
          have q2 := hR10.at_ (i := 2) (u := .int .i64 0) rfl
          have q3 := hR10.at_ (i := 3) (u := .slice none 0 0) rfl
          have f0 := hR10.free 0
          have f1 := hR10.free 1
          have f2 := hR10.free 2
          have f3 := hR10.free 3
          generalize w9.drewN dd = w10 at hR10 hb10 q0 q1 q2 q3 f0 f1 f2 f3 ⊢
          go_wp2_with fail
          exact ret_openOf _ g _ 0 0 0 none 0 0 3 _ rfl rfl rfl ((((hR10.put 0 (.int .i64 0)).put 1 (.int .i64 0)).put 2 (.int .i64 0)).put 3 (.slice none 0 0)) (HBR.out _ hR10 hb10 HNG.out)
        have HGD : Hid (Good l j) := hide ⟨by rw [← HLL.out]; exact hL, by rw [HSQI.out, ← HSQ.out, ← HLL.out, ← HLB.out]; exact HFI.out, HPK.out.symm.trans heq⟩
        have HRES := hide (show true = decide (pack j (kindOf l).toNat lb.toNat sq.toNat (dataOf l) = l) from (decide_eq_true heq).symm)
        clear heq
        go_wp2_with fail
        refine (same_any B9 (some ⟨b, o, none⟩) _ l j j k9 c _ HPL.out HN.out (by omega) hr9 hrP9 _ HRES.out).mono ?_
        rintro e w10 ⟨rfl, dd, rfl⟩
        have hR10 := hR9.drewN dd
        have hF10 := hF9.drewN dd
        have hb10 := below_drewN hb09 dd
        have hrB10 := hrB9.drewN dd
        have q0 := hR10.at_ (i := 0) (u := .int .i64 0) rfl
        have q1 := hR10.at_ (i := 1) (u := .int .i64 0) rfl
        have q2 := hR10.at_ (i := 2) (u := .int .i64 0) rfl
        have q3 := hR10.at_ (i := 3) (u := .slice none 0 0) rfl
        have f0 := hR10.free 0
        have f1 := hR10.free 1
        have f2 := hR10.free 2
        have f3 := hR10.free 3
        have d0 := hF10.at_ (i := 0) (u := .int .i64 (kindOf l)) rfl
        have d1 := hF10.at_ (i := 1) (u := .int .i64 lb) rfl
        have d2 := hF10.at_ (i := 2) (u := .int .i64 sq) rfl
        have d3 := hF10.at_ (i := 3) (u := .slice B6 L k6) rfl
        generalize w9.drewN dd = w10 at hR10 hF10 hb10 hrB10 q0 q1 q2 q3 f0 f1 f2 f3 d0 d1 d2 d3 ⊢
        have HBG : Hid (∀ k o, B6 = some ⟨k, o, none⟩ → u8v (dataOf l) ≠ [] → k ≠ g) := hide fun k o hk hx => by have := HBF.out k o hk (by simpa using hx); omega
        go_wp2_with fail
        refine ret_openOf _ g _ (kindOf l) lb sq B6 L k6 2 _ rfl rfl rfl ((((hR10.put 0 (.int .i64 (kindOf l))).put 1 (.int .i64 lb)).put 2 (.int .i64 sq)).put 3 (.slice B6 L k6)) ⟨?_, .inr ⟨HGD.out, B6, k6, by rw [HSQI.out, ← HSQ.out, ← HLB.out, ← HLL.out], by rw [← HLL.out]; omega, ?_⟩⟩
        · exact (((hb10.setCell (p := ⟨g, 0, none⟩) (by rw [HG.out]; exact Nat.le_refl _) (.int .i64 (kindOf l))).setCell (p := ⟨g, 1, none⟩) (by rw [HG.out]; exact Nat.le_refl _) (.int .i64 lb)).setCell (p := ⟨g, 2, none⟩) (by rw [HG.out]; exact Nat.le_refl _) (.int .i64 sq)).setCell (p := ⟨g, 3, none⟩) (by rw [HG.out]; exact Nat.le_refl _) (.slice B6 L k6)
        · exact rd_far (rd_far (rd_far (rd_far hrB10 (p := ⟨g, 0, none⟩) (.int .i64 (kindOf l)) HBG.out) (p := ⟨g, 1, none⟩) (.int .i64 lb) HBG.out) (p := ⟨g, 2, none⟩) (.int .i64 sq) HBG.out) (p := ⟨g, 3, none⟩) (.slice B6 L k6) HBG.out
end Go.Proofs.Ytmnhgpkbdiobkaa.OpenW
