/- The walk of granarylaw1.CodeSays: true, and nothing that was there is written. -/
import Derived.Test.YtakgbejeaheihaaDoorMendRef
import Derived.Test.YtakgbejeaheihaaDoorRefCrc
import Derived.Test.YtakgbejeaheihaaDoorTold
set_option linter.unusedVariables false
namespace Go.Proofs.YtakgbejeaheihaaDoor.RefW
open Go.RowKit Pop PlacesW WordW ProtectW MendW Ham CheckP Crc CrcW ToldW

theorem mend_shape (A C : Option Addr) (n m cap capc : Nat) (w : World) (h : n % 8 ≠ 0) :
    Calls Tryd.prog 10 #[.slice A n cap, .slice C m capc] w fun e w' => e = .returned (.tuple #[.slice none 0 0, .int .i64 0, .iface 25 (.int .i64 2)]) ∧ w = w' := by
  have H := hide h
  clear h
  go_enter Tryd.func10, Tryd.ntmps10
  go_wp2_with (go_at_call 17; refine (fits_shape A n cap _ H.out).mono ?_; rintro e w' ⟨rfl, rfl⟩)
  go_ret3
  exact ⟨rfl, rfl⟩
theorem mend_full (A C : Option Addr) (n m cap capc : Nat) (w : World) (h : n % 8 = 0) (h2 : 4096 < n) :
    Calls Tryd.prog 10 #[.slice A n cap, .slice C m capc] w fun e w' => e = .returned (.tuple #[.slice none 0 0, .int .i64 0, .iface 25 (.int .i64 3)]) ∧ w = w' := by
  have H := hide h
  clear h
  go_enter Tryd.func10, Tryd.ntmps10
  go_wp2_with (go_at_call 17; refine (fits_full A n cap _ H.out h2).mono ?_; rintro e w' ⟨rfl, rfl⟩)
  go_ret3
  exact ⟨rfl, rfl⟩
theorem mend_count (A C : Option Addr) (k m cap capc : Nat) (w : World) (h2 : 8 * k ≤ 4096) (hc : m ≠ k) :
    Calls Tryd.prog 10 #[.slice A (8 * k) cap, .slice C m capc] w fun e w' => e = .returned (.tuple #[.slice none 0 0, .int .i64 0, .iface 25 (.int .i64 2)]) ∧ w = w' := by
  have hq : (8 * (k : Int)) / 8 = (k : Int) := by omega
  have hne : ((m : Int) != (k : Int)) = true := by simp; omega
  go_enter Tryd.func10, Tryd.ntmps10
  go_wp2_with (go_at_call 17; refine (fits_ok A (8 * k) cap _ (by omega) h2).mono ?_; rintro e w' ⟨rfl, rfl⟩)
  go_ret3
  exact ⟨rfl, rfl⟩

attribute [local irreducible] Ham.low popc chk le prot wordAt crc fixOf

set_option maxRecDepth 100000 in
set_option maxHeartbeats 8000000 in
theorem says_law (w : World) (hE : ErrT w) (A : Option Addr) (l : List UInt8) (n c : Nat) (hn : n = l.length) (hnc : n ≤ c) (hcm : c ≤ 140737488351232) (hr : Rd w A (u8v l)) (C : Option Addr) (cs : List UInt8) (m d : Nat) (hm : m = cs.length) (hmd : m ≤ d) (hdm : d ≤ 140737488351232) (hs : Rd w C (u8v cs)) :
    Calls Tryd.prog 3 #[.slice A n c, .slice C m d] w fun e w' => e = .returned (.bool true) ∧ Below w.heap.size w w' := by
  have HN := hide hn
  have HM := hide hm
  have HE := hide hE
  have hcrc : (((crc l).toNat : Int) != ((crc l).toNat : Int)) = false := by simp
  clear hn hm hE
  go_enter Tryd.func3, Tryd.ntmps3
  go_wp2_with fail
  refine (crc_any A l n c _ HN.out (by omega) hr).mono ?_
  rintro e w1 ⟨rfl, rfl⟩
  go_wp2_with fail
  refine (refCrc_any A l n c _ HN.out (by omega) hr).mono ?_
  rintro e w1 ⟨rfl, rfl⟩
  generalize ((crc l).toNat : Int) = X at hcrc
  by_cases h8 : n % 8 ≠ 0
  · go_wp2_with fail
    refine (bytesFault_shape A n c _ h8).mono ?_
    rintro e w1 ⟨rfl, rfl⟩
    go_wp2_with fail
    refine (protect_shape A n c _ h8).mono ?_
    rintro e w1 ⟨rfl, rfl⟩
    go_wp2_with fail
    refine (error_some 2 2 _ HE.out true rfl).mono ?_
    rintro e w1 ⟨rfl, hb1⟩
    go_wp2_with fail
    refine (mend_shape A C n m c d _ h8).mono ?_
    rintro e w2 ⟨rfl, rfl⟩
    go_wp2_with fail
    refine (error_some 2 2 _ (HE.out.below hb1 (Nat.le_refl _)) true rfl).mono ?_
    rintro e w2 ⟨rfl, hb2⟩
    go_wp2_with fail
    go_ret
    exact ⟨rfl, hb1.trans (hb2.mono hb1.size)⟩
  have h8' : n % 8 = 0 := by omega
  by_cases hmax : 4096 < n
  · go_wp2_with fail
    refine (bytesFault_full A n c _ h8' hmax).mono ?_
    rintro e w1 ⟨rfl, rfl⟩
    go_wp2_with fail
    refine (protect_full A n c _ h8' hmax).mono ?_
    rintro e w1 ⟨rfl, rfl⟩
    go_wp2_with fail
    refine (error_some 3 3 _ HE.out true rfl).mono ?_
    rintro e w1 ⟨rfl, hb1⟩
    go_wp2_with fail
    refine (mend_full A C n m c d _ h8' hmax).mono ?_
    rintro e w2 ⟨rfl, rfl⟩
    go_wp2_with fail
    refine (error_some 3 3 _ (HE.out.below hb1 (Nat.le_refl _)) true rfl).mono ?_
    rintro e w2 ⟨rfl, hb2⟩
    go_wp2_with fail
    go_ret
    exact ⟨rfl, hb1.trans (hb2.mono hb1.size)⟩
  obtain ⟨k, hk⟩ : ∃ k, n = 8 * k := ⟨n / 8, by omega⟩
  subst hk
  have hmax' : 8 * k ≤ 4096 := by omega
  have hdiv : 8 * k / 8 = k := by omega
  have hq : (8 * (k : Int)) / 8 = (k : Int) := by omega
  have HPL : Hid (k = (prot l k).length) := hide (prot_length l k).symm
  have hk512 : k ≤ 512 := by omega
  clear h8 h8' hmax
  go_wp2_with fail
  refine (bytesFault_ok A (8 * k) c _ (by omega) hmax').mono ?_
  rintro e w1 ⟨rfl, rfl⟩
  go_wp2_with fail
  refine (protect_ok A l (8 * k) c _ HN.out (by omega) hmax' hnc hr).mono ?_
  rintro e w2 ⟨v2, rfl, ho2, hb2⟩
  rw [hdiv] at ho2
  obtain ⟨A2, c2, rfl, hc2, -, hr2, -, -⟩ := own_form ho2
  clear ho2
  go_wp2_with fail
  refine (error_nil 0 _ true rfl).mono ?_
  rintro e w3 ⟨rfl, hb3⟩
  have hw3 := hb2.trans (hb3.mono hb2.size)
  have hr3 := hr2.below hb3
  clear hb2 hb3 hr2
  by_cases hmk : m = k
  rotate_left
  · have hne : ((m : Int) != (k : Int)) = true := by simp; omega
    go_wp2_with fail
    refine (mend_count A C k m c d _ hmax' hmk).mono ?_
    rintro e w4 ⟨rfl, rfl⟩
    go_wp2_with fail
    refine (protectOf_any A l (8 * k) c _ HN.out (by omega) hmax' hnc (hr.below hw3)).mono ?_
    rintro e w4 ⟨v4, rfl, ho4, hb4⟩
    rw [hdiv] at ho4
    obtain ⟨A4, c4, rfl, hc4, -, hr4, -, -⟩ := own_form ho4
    have hw4 := hw3.trans (hb4.mono hw3.size)
    clear ho4
    go_wp2_with fail
    refine (same_any A2 A4 (prot l k) (prot l k) k k c2 c4 _ HPL.out HPL.out (by omega) (hr3.below hb4) hr4 true (by simp)).mono ?_
    rintro e w5 ⟨rfl, q5, rfl⟩
    have hw5 := below_drewN hw4 q5
    go_wp2_with fail
    refine (error_some 2 2 _ (HE.out.below hw5 (Nat.le_refl _)) true rfl).mono ?_
    rintro e w6 ⟨rfl, hb6⟩
    go_wp2_with fail
    go_ret
    exact ⟨rfl, hw5.trans (hb6.mono hw5.size)⟩
  subst hmk
  have hne : ((m : Int) != (m : Int)) = false := by simp
  have HLEN := hide (mendTo_length l cs m)
  go_wp2_with fail
  refine (mend_any A C l cs (8 * m) m c d _ HN.out HM.out (by omega) hmax' hnc (by omega) (hr.below hw3) (hs.below hw3)).mono ?_
  rintro e w4 ⟨hb4, hp4⟩
  have hw4 := hw3.trans (hb4.mono hw3.size)
  have hr4 := hr3.below hb4
  obtain ⟨R, hR⟩ : ∃ R, R = mendTo l cs m := ⟨_, rfl⟩
  rw [← hR] at hp4
  have HR := hide hR
  rw [← hR] at HLEN
  clear hR hb4
  cases R with
  | none =>
    simp only at hp4
    subst hp4
    go_wp2_with fail
    refine (protectOf_any A l (8 * m) c _ HN.out (by omega) hmax' hnc (hr.below hw4)).mono ?_
    rintro e w5 ⟨v5, rfl, ho5, hb5⟩
    rw [hdiv] at ho5
    obtain ⟨A5, c5, rfl, hc5, -, hr5, -, -⟩ := own_form ho5
    have hw5 := hw4.trans (hb5.mono hw4.size)
    clear ho5
    go_wp2_with fail
    refine (same_any A2 A5 (prot l m) (prot l m) m m c2 c5 _ HPL.out HPL.out (by omega) (hr4.below hb5) hr5 true (by simp)).mono ?_
    rintro e w6 ⟨rfl, q6, rfl⟩
    have hw6 := below_drewN hw5 q6
    go_wp2_with fail
    refine (mendOf_any A C l cs (8 * m) m c d _ HN.out HM.out rfl hmax' hnc (hr.below hw6) (hs.below hw6)).mono ?_
    rintro e w7 ⟨hb7, hp7⟩
    rw [← HR.out] at hp7
    simp only at hp7
    subst hp7
    have hw7 := hw6.trans (hb7.mono hw6.size)
    go_wp2_with fail
    refine (error_some 8 8 _ (HE.out.below hw7 (Nat.le_refl _)) true rfl).mono ?_
    rintro e w8 ⟨rfl, hb8⟩
    go_wp2_with fail
    go_ret
    exact ⟨rfl, hw7.trans (hb8.mono hw7.size)⟩
  | some R =>
    obtain ⟨out, q⟩ := R
    obtain ⟨v4, rfl, ho4⟩ := hp4
    obtain ⟨A4, c4, rfl, hc4, -, hrm4, -, -⟩ := own_form ho4
    have HOL : Hid (8 * m = out.length) := hide (by rw [(HLEN.out out q rfl).1]; exact HN.out)
    have hqm := (HLEN.out out q rfl).2
    clear ho4
    go_wp2_with fail
    refine (protectOf_any A l (8 * m) c _ HN.out (by omega) hmax' hnc (hr.below hw4)).mono ?_
    rintro e w5 ⟨v5, rfl, ho5, hb5⟩
    rw [hdiv] at ho5
    obtain ⟨A5, c5, rfl, hc5, -, hr5, -, -⟩ := own_form ho5
    have hw5 := hw4.trans (hb5.mono hw4.size)
    have hrm5 := hrm4.below hb5
    clear ho5
    go_wp2_with fail
    refine (same_any A2 A5 (prot l m) (prot l m) m m c2 c5 _ HPL.out HPL.out (by omega) (hr4.below hb5) hr5 true (by simp)).mono ?_
    rintro e w6 ⟨rfl, q6, rfl⟩
    have hw6 := below_drewN hw5 q6
    have hrm6 := hrm5.drewN q6
    go_wp2_with fail
    refine (mendOf_any A C l cs (8 * m) m c d _ HN.out HM.out rfl hmax' hnc (hr.below hw6) (hs.below hw6)).mono ?_
    rintro e w7 ⟨hb7, hp7⟩
    rw [← HR.out] at hp7
    obtain ⟨v7, rfl, ho7⟩ := hp7
    obtain ⟨A7, c7, rfl, hc7, -, hr7, -, -⟩ := own_form ho7
    have hw7 := hw6.trans (hb7.mono hw6.size)
    have hrm7 := hrm6.below hb7
    have dq : ((q : Int) == (q : Int)) = true := by simp
    clear ho7
    go_wp2_with fail
    refine (same_any A4 A7 out out (8 * m) (8 * m) c4 c7 _ HOL.out HOL.out (by omega) hrm7 hr7 true (by simp)).mono ?_
    rintro e w8 ⟨rfl, q8, rfl⟩
    have hw8 := below_drewN hw7 q8
    go_wp2_with fail
    go_ret
    exact ⟨rfl, hw8⟩
end Go.Proofs.YtakgbejeaheihaaDoor.RefW
