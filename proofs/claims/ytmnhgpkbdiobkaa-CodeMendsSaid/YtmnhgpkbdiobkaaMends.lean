/- The walk of granarylaw1.CodeMends: true, and nothing that was there is written. -/
import Derived.Test.YtmnhgpkbdiobkaaCodeFact
import Derived.Test.YtmnhgpkbdiobkaaHamLists
set_option linter.unusedVariables false
namespace Go.Proofs.Ytmnhgpkbdiobkaa.MendsW
open Go.RowKit ProtectW MendW FactW Ham

attribute [local irreducible] prot mendTo turnL pickN

set_option maxRecDepth 100000 in
set_option maxHeartbeats 1000000 in
theorem law (w : World) (A : Option Addr) (l : List UInt8) (n cap : Nat) (hn : n = l.length) (hcap : n ≤ cap) (hmax : cap ≤ 140737488351232) (hr : Rd w A (u8v l)) (at_ : Int) (t1 : -9223372036854775808 ≤ at_) (t2 : at_ ≤ 9223372036854775807) :
    Calls Try.prog 6 #[.slice A n cap, .int .i64 at_] w fun e w' => e = .returned (.bool true) ∧ Below w.heap.size w w' := by
  have HN := hide hn
  clear hn
  by_cases hg : n % 8 = 0 ∧ n ≤ 4096
  · obtain ⟨h8, h4⟩ := hg
    have H8 := hide h8
    clear h8
    by_cases h0 : n = 0
    · subst h0
      go_enter Try.func6, Try.ntmps6
      go_wp2_with (go_at_call 17; refine (fact_any _).mono ?_; rintro e w1 ⟨rfl, hb1⟩)
      refine (protect_ok A l 0 cap _ HN.out rfl h4 hcap (hr.below hb1)).mono ?_
      rintro e w2 ⟨v, rfl, ho, hb2⟩
      obtain ⟨A1, e1, rfl, -, -, -, -, -⟩ := own_form ho
      clear ho
      go_wp2
      go_ret
      exact ⟨rfl, hb1.trans (hb2.mono hb1.size)⟩
    · have hnz : ((n : Int) == 0) = false := by simp; omega
      obtain ⟨K, hK⟩ : ∃ K, K = n / 8 := ⟨_, rfl⟩
      have hK8 : n = 8 * K := by have := H8.out; omega
      have hKp : 0 < K := by omega
      have hKm : K ≤ 512 := by omega
      have HK := hide hK
      have HK8 := hide hK8
      have hll : l.length = 8 * K := by rw [← HN.out]; exact hK8
      have HLL := hide hll
      have hdiv : (n : Int) / 8 = (K : Int) := by omega
      have hself : ((K : Int) != (K : Int)) = false := by simp
      clear hK hK8 hll
      go_enter Try.func6, Try.ntmps6
      go_wp2_with (go_at_call 17; refine (fact_any _).mono ?_; rintro e w1 ⟨rfl, hb1⟩)
      refine (protect_ok A l n cap _ HN.out H8.out h4 hcap (hr.below hb1)).mono ?_
      rw [← HK.out]
      rintro e w2 ⟨v, rfl, ho, hb2⟩
      obtain ⟨A1, e1, rfl, he1, -, hrp, -, -⟩ := own_form ho
      clear ho
      have hb12 := hb1.trans (hb2.mono hb1.size)
      go_wp2_with fail
      refine (turned_any A A1 l (prot l K) n K cap e1 at_ w2 HN.out (prot_length l K).symm (by omega) (by omega) (by omega) t1 t2 (hr.below hb12) hrp).mono ?_
      have hq := pickN_lt at_ (8 * (n + K)) (by omega)
      have hq2 : pickN at_ (8 * (n + K)) < 72 * K := by have := HK8.out; omega
      have HM := hide (mend_turned l K _ HLL.out hq2)
      rintro e w3 ⟨v1, v2, rfl, ho1, ho2, hb3⟩
      have hl1 : n = (turnL l (prot l K) (pickN at_ (8 * (n + K)))).1.length := by have := ho1.1; simpa [u8v] using this.symm
      have hl2 : K = (turnL l (prot l K) (pickN at_ (8 * (n + K)))).2.length := by have := ho2.1; simpa [u8v] using this.symm
      generalize (turnL l (prot l K) (pickN at_ (8 * (n + K)))).1 = a at HM ho1 hl1
      generalize (turnL l (prot l K) (pickN at_ (8 * (n + K)))).2 = b at HM ho2 hl2
      have HL1 := hide hl1
      have HL2 := hide hl2
      clear hl1 hl2 hq hq2
      obtain ⟨A2, e2, rfl, he2, -, hra, -, -⟩ := own_form ho1
      obtain ⟨A3, e3, rfl, he3, -, hrb, -, -⟩ := own_form ho2
      clear ho1 ho2
      have hb13 := hb12.trans (hb3.mono hb12.size)
      go_wp2_with fail
      refine (mend_any A2 A3 a b n K e2 e3 w3 HL1.out HL2.out H8.out h4 he2 HK.out hra hrb).mono ?_
      unfold MendPost
      rw [HM.out]
      rintro e w4 ⟨hb4, v4, rfl, ho4⟩
      obtain ⟨A4, e4, rfl, he4, -, hr4, -, -⟩ := own_form ho4
      clear ho4
      have hb14 := hb13.trans (hb4.mono hb13.size)
      go_wp2_with fail
      refine (same_any A4 A l l n n e4 cap w4 HN.out HN.out (by omega) hr4 (hr.below hb14) true (by simp)).mono ?_
      rintro e w' ⟨rfl, d, rfl⟩
      go_wp2_with fail
      refine (mend_any A A1 l (prot l K) n K cap e1 _ HN.out (prot_length l K).symm H8.out h4 hcap HK.out ((hr.below hb14).drewN d) (((hrp.below hb3).below hb4).drewN d)).mono ?_
      unfold MendPost
      rw [mend_whole l K HLL.out]
      rintro e w5 ⟨hb5, v5, rfl, ho5⟩
      obtain ⟨A5, e5, rfl, he5, -, hr5, -, -⟩ := own_form ho5
      clear ho5
      have hb15 := (below_drewN hb14 d).trans (hb5.mono hb14.size)
      go_wp2_with fail
      refine (same_any A5 A l l n n e5 cap w5 HN.out HN.out (by omega) hr5 (hr.below hb15) true (by simp)).mono ?_
      rintro e w' ⟨rfl, d', rfl⟩
      go_wp2_with fail
      go_ret
      exact ⟨rfl, below_drewN hb15 d'⟩
  · go_enter Try.func6, Try.ntmps6
    go_wp2_with (go_at_call 17; refine (fact_any _).mono ?_; rintro e w1 ⟨rfl, hb1⟩)
    refine (protect_bad A n cap _ hg).mono ?_
    rintro e w2 ⟨k, rfl, rfl⟩
    go_wp2
    go_ret
    exact ⟨rfl, hb1⟩
end Go.Proofs.Ytmnhgpkbdiobkaa.MendsW
