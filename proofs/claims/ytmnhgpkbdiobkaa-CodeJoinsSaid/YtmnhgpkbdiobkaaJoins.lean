/- The walk of granarylaw1.CodeJoins: true, and nothing that was there is written. -/
import Derived.Test.YtmnhgpkbdiobkaaCodeFact
import Derived.Test.YtmnhgpkbdiobkaaHamJoin
set_option linter.unusedVariables false
namespace Go.Proofs.Ytmnhgpkbdiobkaa.JoinsW
open Go.RowKit ProtectW MendW FactW Ham

attribute [local irreducible] prot mendTo turnL pickN

/-- Both can be protected, neither is empty, and both together are not too long. -/
def Good (n m : Nat) : Prop := (n % 8 = 0 ∧ n ≤ 4096) ∧ (m % 8 = 0 ∧ m ≤ 4096) ∧ n + m ≤ 4096 ∧ 0 < n ∧ 0 < m

set_option maxRecDepth 100000 in
set_option maxHeartbeats 2000000 in
theorem good (w : World) (A B : Option Addr) (a b : List UInt8) (n m cap capb : Nat) (hn : n = a.length) (hm : m = b.length) (hcap : n ≤ cap) (hcapb : m ≤ capb) (ra : Rd w A (u8v a)) (rb : Rd w B (u8v b))
    (i k : Int) (t1 : -9223372036854775808 ≤ i) (t2 : i ≤ 9223372036854775807) (t3 : -9223372036854775808 ≤ k) (t4 : k ≤ 9223372036854775807) (hg : Good n m) :
    Calls Try.prog 7 #[.slice A n cap, .slice B m capb, .int .i64 i, .int .i64 k] w fun e w' => e = .returned (.bool true) ∧ Below w.heap.size w w' := by
  obtain ⟨⟨hn8, hn4⟩, ⟨hm8, hm4⟩, hsum, hn0, hm0⟩ := hg
  obtain ⟨K, hK⟩ : ∃ K, K = n / 8 := ⟨_, rfl⟩
  obtain ⟨L, hL⟩ : ∃ L, L = m / 8 := ⟨_, rfl⟩
  have hnz : ((n : Int) == 0) = false := by simp; omega
  have hmz : ((m : Int) == 0) = false := by simp; omega
  have HA := hide (show a.length = 8 * K by omega)
  have HB := hide (show b.length = 8 * L by omega)
  have HNK := hide (show n = 8 * K by omega)
  have HML := hide (show m = 8 * L by omega)
  have hKp : 0 < K := by omega
  have hLp : 0 < L := by omega
  have hKm : K ≤ 512 := by omega
  have hLm : L ≤ 512 := by omega
  have HS8 := hide (show (n + m) % 8 = 0 by omega)
  have HSK := hide (show K + L = (n + m) / 8 by omega)
  have HN := hide hn
  have HM := hide hm
  have HN8 := hide hn8
  have HM8 := hide hm8
  have HK := hide hK
  have HL := hide hL
  have HAB := hide (show n + m = (a ++ b).length by rw [List.length_append, ← hn, ← hm])
  clear hn hm hn8 hm8 hK hL
  go_enter Try.func7, Try.ntmps7
  go_wp2_with (go_at_call 17; refine (fact_any _).mono ?_; rintro e w1 ⟨rfl, hb1⟩)
  refine (protect_ok A a n cap _ HN.out HN8.out hn4 hcap (ra.below hb1)).mono ?_
  rw [← HK.out]
  rintro e w2 ⟨v, rfl, ho, hb2⟩
  obtain ⟨A1, e1, rfl, he1, -, hrp, -, -⟩ := own_form ho
  clear ho
  have hb12 := hb1.trans (hb2.mono hb1.size)
  go_wp2_with fail
  refine (protect_ok B b m capb _ HM.out HM8.out hm4 hcapb (rb.below hb12)).mono ?_
  rw [← HL.out]
  rintro e w3 ⟨v, rfl, ho, hb3⟩
  obtain ⟨A2, e2, rfl, he2, -, hrq, -, -⟩ := own_form ho
  clear ho
  have hb13 := hb12.trans (hb3.mono hb12.size)
  have hrp3 := hrp.below hb3
  go_wp2_with fail
  refine (turned_any A A1 a (prot a K) n K cap e1 i w3 HN.out (prot_length a K).symm (by omega) (by omega) (by omega) t1 t2 (ra.below hb13) hrp3).mono ?_
  have hq1 : pickN i (8 * (n + K)) < 72 * K := by have := pickN_lt i (8 * (n + K)) (by omega); have := HNK.out; omega
  generalize pickN i (8 * (n + K)) = q at hq1
  rintro e w4 ⟨v1, v2, rfl, ho1, ho2, hb4⟩
  obtain ⟨A3, e3, rfl, he3, -, hrx, -, -⟩ := own_form ho1
  obtain ⟨A4, e4, rfl, he4, -, hru, -, -⟩ := own_form ho2
  clear ho1 ho2
  have hb14 := hb13.trans (hb4.mono hb13.size)
  go_wp2_with fail
  refine (turned_any B A2 b (prot b L) m L capb e2 k w4 HM.out (prot_length b L).symm (by omega) (by omega) (by omega) t3 t4 (rb.below hb14) (hrq.below hb4)).mono ?_
  have hq2 : pickN k (8 * (m + L)) < 72 * L := by have := pickN_lt k (8 * (m + L)) (by omega); have := HML.out; omega
  generalize pickN k (8 * (m + L)) = r at hq2
  rintro e w5 ⟨v1, v2, rfl, ho1, ho2, hb5⟩
  obtain ⟨A5, e5, rfl, he5, -, hry, -, -⟩ := own_form ho1
  obtain ⟨A6, e6, rfl, he6, -, hrv, -, -⟩ := own_form ho2
  clear ho1 ho2
  have hb15 := hb14.trans (hb5.mono hb14.size)
  have hrx5 := hrx.below hb5
  have hru5 := hru.below hb5
  have hrp5 := (hrp3.below hb4).below hb5
  have hrq5 := (hrq.below hb4).below hb5
  have HJ := hide (mend_join a b K L q r HA.out HB.out hq1 hq2)
  have L1 := hide (show n = (turnL a (prot a K) q).1.length by rw [(turnL_len _ _ _).1, ← HN.out])
  have L2 := hide (show K = (turnL a (prot a K) q).2.length by rw [(turnL_len _ _ _).2, prot_length])
  have L3 := hide (show m = (turnL b (prot b L) r).1.length by rw [(turnL_len _ _ _).1, ← HM.out])
  have L4 := hide (show L = (turnL b (prot b L) r).2.length by rw [(turnL_len _ _ _).2, prot_length])
  generalize (turnL a (prot a K) q).1 = x at hrx5 HJ L1
  generalize (turnL a (prot a K) q).2 = u at hru5 HJ L2
  generalize (turnL b (prot b L) r).1 = y at hry HJ L3
  generalize (turnL b (prot b L) r).2 = v at hrv HJ L4
  have L5 := hide (show n + m = (x ++ y).length by rw [List.length_append, ← L1.out, ← L3.out])
  have L6 := hide (show K + L = (u ++ v).length by rw [List.length_append, ← L2.out, ← L4.out])
  clear hq1 hq2
  have hba : Below w5.heap.size w5 (w5.alloc (.cells #[] 5)) := (Below.refl _ _).alloc (Nat.le_refl _) _
  go_wp2_with (first
    | (at_builtin
       refine wpList_app _ rfl (.tmp 77) (.tmp 78) rfl w5.heap.size (.slice (some ⟨w5.heap.size, 0, none⟩) 0 0) 0 [] rfl (own_empty w5) A3 n e3 x rfl L1.out (hrx5.alloc _) (by omega) (by simp) ?_
       intro A7 e7 w6 he7 ho7 hb6
       simp only [Nat.zero_add, List.nil_append] at he7 ho7
       have hb56 := hba.trans hb6)
    | (at_builtin
       refine wpList_app w6 rfl (.tmp 79) (.tmp 80) rfl w5.heap.size (.slice A7 n e7) n x rfl ho7 A5 m e5 y rfl L3.out (hry.below hb56) (by omega) hb56.size ?_
       intro A8 e8 w7 he8 ho8 hb7
       have hb57 := hb56.trans hb7
       have hr8 := own_rd ho8
       have hbb : Below w7.heap.size w7 (w7.alloc (.cells #[] 5)) := (Below.refl _ _).alloc (Nat.le_refl _) _)
    | (at_builtin
       refine wpList_app _ rfl (.tmp 82) (.tmp 83) rfl w7.heap.size (.slice (some ⟨w7.heap.size, 0, none⟩) 0 0) 0 [] rfl (own_empty w7) A4 K e4 u rfl L2.out ((hru5.below hb57).alloc _) (by omega) (by simp) ?_
       intro A9 e9 w8 he9 ho9 hb8
       simp only [Nat.zero_add, List.nil_append] at he9 ho9
       have hb78 := hbb.trans hb8)
    | (at_builtin
       refine wpList_app w8 rfl (.tmp 84) (.tmp 85) rfl w7.heap.size (.slice A9 K e9) K u rfl ho9 A6 L e6 v rfl L4.out ((hrv.below hb57).below hb78) (by omega) hb78.size ?_
       intro A10 e10 w9 he10 ho10 hb9
       have hb79 := hb78.trans hb9
       have hr10 := own_rd ho10))
  have hb19 := (hb15.trans (hb57.mono hb15.size)).trans (hb79.mono (Nat.le_trans hb15.size hb57.size))
  refine (mend_any A8 A10 (x ++ y) (u ++ v) (n + m) (K + L) e8 e10 w9 L5.out L6.out HS8.out (by omega) he8 HSK.out (hr8.below hb79) hr10).mono ?_
  unfold MendPost
  rw [HJ.out]
  rintro e w10 ⟨hb10, v4, rfl, ho4⟩
  obtain ⟨A11, e11, rfl, he11, -, hr11, -, -⟩ := own_form ho4
  clear ho4
  have hb1a := hb19.trans (hb10.mono hb19.size)
  have hrp10 := ((hrp5.below hb57).below hb79).below hb10
  have hrq10 := ((hrq5.below hb57).below hb79).below hb10
  have hbc : Below w10.heap.size w10 (w10.alloc (.cells #[] 5)) := (Below.refl _ _).alloc (Nat.le_refl _) _
  go_wp2_with (first
    | (at_builtin
       refine wpList_app _ rfl (.tmp 94) (.tmp 95) rfl w10.heap.size (.slice (some ⟨w10.heap.size, 0, none⟩) 0 0) 0 [] rfl (own_empty w10) A n cap a rfl HN.out ((ra.below hb1a).alloc _) (by omega) (by simp) ?_
       intro A12 e12 w11 he12 ho12 hb11
       simp only [Nat.zero_add, List.nil_append] at he12 ho12
       have hb1011 := hbc.trans hb11)
    | (at_builtin
       refine wpList_app w11 rfl (.tmp 96) (.tmp 97) rfl w10.heap.size (.slice A12 n e12) n a rfl ho12 B m capb b rfl HM.out ((rb.below hb1a).below hb1011) (by omega) hb1011.size ?_
       intro A13 e13 w12 he13 ho13 hb12'
       have hb1012 := hb1011.trans hb12'
       have hr13 := own_rd ho13))
  have hb1c := hb1a.trans (hb1012.mono hb1a.size)
  refine (same_any A11 A13 (a ++ b) (a ++ b) (n + m) (n + m) e11 e13 w12 HAB.out HAB.out (by omega) (hr11.below hb1012) hr13 true (by simp)).mono ?_
  rintro e w' ⟨rfl, d, rfl⟩
  go_wp2_with fail
  refine (protect_ok A13 (a ++ b) (n + m) e13 _ HAB.out HS8.out (by omega) he13 (hr13.drewN d)).mono ?_
  rw [← HSK.out, prot_join a b K L HA.out]
  rintro e w13 ⟨v5, rfl, ho5, hb13'⟩
  obtain ⟨A14, e14, rfl, he14, -, hr14, -, -⟩ := own_form ho5
  clear ho5
  have hb1d := (below_drewN hb1c d).trans (hb13'.mono hb1c.size)
  have hrp13 : Rd w13 A1 (u8v (prot a K)) := ((hrp10.below hb1012).drewN d).below hb13'
  have hrq13 : Rd w13 A2 (u8v (prot b L)) := ((hrq10.below hb1012).drewN d).below hb13'
  have L7 := hide (show K + L = (prot a K ++ prot b L).length by rw [List.length_append, prot_length, prot_length])
  have L8 := hide (prot_length a K).symm
  have L9 := hide (prot_length b L).symm
  generalize prot a K = p at hr14 hrp13 L7 L8
  generalize prot b L = q' at hr14 hrq13 L7 L9
  have hbd : Below w13.heap.size w13 (w13.alloc (.cells #[] 5)) := (Below.refl _ _).alloc (Nat.le_refl _) _
  go_wp2_with (first
    | (at_builtin
       refine wpList_app _ rfl (.tmp 117) (.tmp 118) rfl w13.heap.size (.slice (some ⟨w13.heap.size, 0, none⟩) 0 0) 0 [] rfl (own_empty w13) A1 K e1 p rfl L8.out (hrp13.alloc _) (by omega) (by simp) ?_
       intro A15 e15 w14 he15 ho15 hb14'
       simp only [Nat.zero_add, List.nil_append] at he15 ho15
       have hb1314 := hbd.trans hb14')
    | (at_builtin
       refine wpList_app w14 rfl (.tmp 119) (.tmp 120) rfl w13.heap.size (.slice A15 K e15) K p rfl ho15 A2 L e2 q' rfl L9.out (hrq13.below hb1314) (by omega) hb1314.size ?_
       intro A16 e16 w15 he16 ho16 hb15'
       have hb1315 := hb1314.trans hb15'
       have hr16 := own_rd ho16))
  have hb1e := hb1d.trans (hb1315.mono hb1d.size)
  refine (same_any A14 A16 (p ++ q') (p ++ q') (K + L) (K + L) e14 e16 w15 L7.out L7.out (by omega) (hr14.below hb1315) hr16 true (by simp)).mono ?_
  rintro e w' ⟨rfl, d', rfl⟩
  go_wp2_with fail
  go_ret
  exact ⟨rfl, below_drewN hb1e d'⟩

theorem protect_some (A : Option Addr) (l : List UInt8) (n cap : Nat) (w : World) (hn : n = l.length) (hcap : n ≤ cap) (hr : Rd w A (u8v l)) :
    Calls Try.prog 20 #[.slice A n cap] w fun e w' => ∃ v ev, e = .returned (.tuple #[v, ev]) ∧ Below w.heap.size w w' := by
  by_cases hg : n % 8 = 0 ∧ n ≤ 4096
  · exact (protect_ok A l n cap w hn hg.1 hg.2 hcap hr).mono fun e w' ⟨v, h1, _, h3⟩ => ⟨v, _, h1, h3⟩
  · exact (protect_bad A n cap w hg).mono fun e w' ⟨k, h1, h2⟩ => ⟨_, _, h1, h2 ▸ Below.refl _ _⟩

set_option maxRecDepth 100000 in
set_option maxHeartbeats 1000000 in
theorem bad_first (w : World) (A B : Option Addr) (a b : List UInt8) (n m cap capb : Nat) (hn : n = a.length) (hm : m = b.length) (hcap : n ≤ cap) (hcapb : m ≤ capb) (ra : Rd w A (u8v a)) (rb : Rd w B (u8v b)) (i k : Int) (hg : ¬ (n % 8 = 0 ∧ n ≤ 4096)) :
    Calls Try.prog 7 #[.slice A n cap, .slice B m capb, .int .i64 i, .int .i64 k] w fun e w' => e = .returned (.bool true) ∧ Below w.heap.size w w' := by
  have HG := hide hg
  have HM := hide hm
  clear hg hn hm
  go_enter Try.func7, Try.ntmps7
  go_wp2_with (go_at_call 17; refine (fact_any _).mono ?_; rintro e w1 ⟨rfl, hb1⟩)
  refine (protect_bad A n cap _ HG.out).mono ?_
  rintro e w2 ⟨q, rfl, rfl⟩
  go_wp2_with fail
  refine (protect_some B b m capb _ HM.out hcapb (rb.below hb1)).mono ?_
  rintro e w3 ⟨v, ev, rfl, hb3⟩
  go_wp2_with fail
  go_ret
  exact ⟨rfl, hb1.trans (hb3.mono hb1.size)⟩

set_option maxRecDepth 100000 in
set_option maxHeartbeats 1000000 in
theorem bad_second (w : World) (A B : Option Addr) (a b : List UInt8) (n m cap capb : Nat) (hn : n = a.length) (hm : m = b.length) (hcap : n ≤ cap) (hcapb : m ≤ capb) (ra : Rd w A (u8v a)) (rb : Rd w B (u8v b)) (i k : Int) (hf : n % 8 = 0 ∧ n ≤ 4096) (hg : ¬ (m % 8 = 0 ∧ m ≤ 4096)) :
    Calls Try.prog 7 #[.slice A n cap, .slice B m capb, .int .i64 i, .int .i64 k] w fun e w' => e = .returned (.bool true) ∧ Below w.heap.size w w' := by
  have HG := hide hg
  have HF := hide hf
  have HN := hide hn
  clear hg hn hm hf
  go_enter Try.func7, Try.ntmps7
  go_wp2_with (go_at_call 17; refine (fact_any _).mono ?_; rintro e w1 ⟨rfl, hb1⟩)
  refine (protect_ok A a n cap _ HN.out HF.out.1 HF.out.2 hcap (ra.below hb1)).mono ?_
  rintro e w2 ⟨v, rfl, ho, hb2⟩
  clear ho
  have hb12 := hb1.trans (hb2.mono hb1.size)
  go_wp2_with fail
  refine (protect_bad B m capb _ HG.out).mono ?_
  rintro e w2 ⟨q, rfl, rfl⟩
  go_wp2_with fail
  go_ret
  exact ⟨rfl, hb12⟩

set_option maxRecDepth 100000 in
set_option maxHeartbeats 1000000 in
theorem bad_sizes (w : World) (A B : Option Addr) (a b : List UInt8) (n m cap capb : Nat) (hn : n = a.length) (hm : m = b.length) (hcap : n ≤ cap) (hcapb : m ≤ capb) (ra : Rd w A (u8v a)) (rb : Rd w B (u8v b)) (i k : Int) (hf : n % 8 = 0 ∧ n ≤ 4096) (hg : m % 8 = 0 ∧ m ≤ 4096)
    (h : 4096 < n + m ∨ n = 0 ∨ m = 0) :
    Calls Try.prog 7 #[.slice A n cap, .slice B m capb, .int .i64 i, .int .i64 k] w fun e w' => e = .returned (.bool true) ∧ Below w.heap.size w w' := by
  have hn4 := hf.2
  have hm4 := hg.2
  have HG := hide hg
  have HF := hide hf
  have HN := hide hn
  have HM := hide hm
  clear hg hn hm hf
  by_cases h1 : 4096 < n + m
  · have d1 : decide ((4096 : Int) < (n : Int) + (m : Int)) = true := by simp; omega
    have d2 : (4096 : Int) < (n : Int) + (m : Int) := by omega
    clear h
    go_enter Try.func7, Try.ntmps7
    go_wp2_with (go_at_call 17; refine (fact_any _).mono ?_; rintro e w1 ⟨rfl, hb1⟩)
    refine (protect_ok A a n cap _ HN.out HF.out.1 HF.out.2 hcap (ra.below hb1)).mono ?_
    rintro e w2 ⟨v, rfl, ho, hb2⟩
    clear ho
    have hb12 := hb1.trans (hb2.mono hb1.size)
    go_wp2_with fail
    refine (protect_ok B b m capb _ HM.out HG.out.1 HG.out.2 hcapb (rb.below hb12)).mono ?_
    rintro e w3 ⟨v, rfl, ho, hb3⟩
    clear ho
    go_wp2_with fail
    go_ret
    exact ⟨rfl, hb12.trans (hb3.mono hb12.size)⟩
  · have d1 : decide ((4096 : Int) < (n : Int) + (m : Int)) = false := by simp; omega
    by_cases h2 : n = 0
    · have e2 : ((n : Int) == 0) = true := by simp; omega
      clear h h1 h2
      go_enter Try.func7, Try.ntmps7
      go_wp2_with (go_at_call 17; refine (fact_any _).mono ?_; rintro e w1 ⟨rfl, hb1⟩)
      refine (protect_ok A a n cap _ HN.out HF.out.1 HF.out.2 hcap (ra.below hb1)).mono ?_
      rintro e w2 ⟨v, rfl, ho, hb2⟩
      clear ho
      have hb12 := hb1.trans (hb2.mono hb1.size)
      go_wp2_with fail
      refine (protect_ok B b m capb _ HM.out HG.out.1 HG.out.2 hcapb (rb.below hb12)).mono ?_
      rintro e w3 ⟨v, rfl, ho, hb3⟩
      clear ho
      go_wp2_with fail
      go_ret
      exact ⟨rfl, hb12.trans (hb3.mono hb12.size)⟩
    · have e2 : ((n : Int) == 0) = false := by simp; omega
      have e3 : ((m : Int) == 0) = true := by simp; omega
      clear h h1 h2
      go_enter Try.func7, Try.ntmps7
      go_wp2_with (go_at_call 17; refine (fact_any _).mono ?_; rintro e w1 ⟨rfl, hb1⟩)
      refine (protect_ok A a n cap _ HN.out HF.out.1 HF.out.2 hcap (ra.below hb1)).mono ?_
      rintro e w2 ⟨v, rfl, ho, hb2⟩
      clear ho
      have hb12 := hb1.trans (hb2.mono hb1.size)
      go_wp2_with fail
      refine (protect_ok B b m capb _ HM.out HG.out.1 HG.out.2 hcapb (rb.below hb12)).mono ?_
      rintro e w3 ⟨v, rfl, ho, hb3⟩
      clear ho
      go_wp2_with fail
      go_ret
      exact ⟨rfl, hb12.trans (hb3.mono hb12.size)⟩

theorem law (w : World) (A : Option Addr) (a : List UInt8) (n cap : Nat) (hn : n = a.length) (hcap : n ≤ cap) (m1 : cap ≤ 140737488351232) (ra : Rd w A (u8v a)) (B : Option Addr) (b : List UInt8) (m capb : Nat) (hm : m = b.length) (hcapb : m ≤ capb) (m2 : capb ≤ 140737488351232) (rb : Rd w B (u8v b))
    (i : Int) (t1 : -9223372036854775808 ≤ i) (t2 : i ≤ 9223372036854775807) (k : Int) (t3 : -9223372036854775808 ≤ k) (t4 : k ≤ 9223372036854775807) :
    Calls Try.prog 7 #[.slice A n cap, .slice B m capb, .int .i64 i, .int .i64 k] w fun e w' => e = .returned (.bool true) ∧ Below w.heap.size w w' := by
  by_cases hf : n % 8 = 0 ∧ n ≤ 4096
  · by_cases hg : m % 8 = 0 ∧ m ≤ 4096
    · by_cases hs : 4096 < n + m ∨ n = 0 ∨ m = 0
      · exact bad_sizes w A B a b n m cap capb hn hm hcap hcapb ra rb i k hf hg hs
      · exact good w A B a b n m cap capb hn hm hcap hcapb ra rb i k t1 t2 t3 t4 ⟨hf, hg, by omega, by omega, by omega⟩
    · exact bad_second w A B a b n m cap capb hn hm hcap hcapb ra rb i k hf hg
  · exact bad_first w A B a b n m cap capb hn hm hcap hcapb ra rb i k hf
end Go.Proofs.Ytmnhgpkbdiobkaa.JoinsW
