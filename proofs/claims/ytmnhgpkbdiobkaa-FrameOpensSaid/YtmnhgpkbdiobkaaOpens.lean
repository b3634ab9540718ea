/- The walk of frame.Open. -/
import Derived.Test.YtmnhgpkbdiobkaaGet
import Derived.Test.YtmnhgpkbdiobkaaFrameU
import Derived.Test.YtmnhgpkbdiobkaaApart
set_option linter.unusedVariables false
namespace Go.Proofs.Ytmnhgpkbdiobkaa.OpenW
open Go.RowKit PutW CrcW Fram Crc PackW FrameW GetW ApartW

/-- The zero frame. -/
def noFrame : Value := frV 0 0 0 none 0 0

attribute [local irreducible] pack

/-- The world in which the walk counts. -/
def w0 (w : World) : World := (w.alloc (.cells #[.int .i64 0, .int .i64 0, .int .i64 0, .slice none 0 0] 28)).alloc (.cells #[.int .u8 255] 5)
theorem w0_size (w : World) : (w0 w).heap.size = w.heap.size + 2 := by simp [w0]
theorem w0_below (w : World) : Below w.heap.size w (w0 w) := ((Below.refl _ _).alloc (Nat.le_refl _) _).alloc (by simp) _
theorem w0_res (w : World) : Bk (w0 w) w.heap.size 28 #[.int .i64 0, .int .i64 0, .int .i64 0, .slice none 0 0] := (Bk.new _ _ _).alloc _
theorem w0_ff (w : World) : (w0 w).cell? ⟨w.heap.size + 1, 0, none⟩ = some (.int .u8 255) := by
  have h := Bk.new (w.alloc (.cells #[.int .i64 0, .int .i64 0, .int .i64 0, .slice none 0 0] 28)) 5 #[.int .u8 255]
  have hs : (w.alloc (.cells #[.int .i64 0, .int .i64 0, .int .i64 0, .slice none 0 0] 28)).heap.size = w.heap.size + 1 := by simp
  rw [hs] at h
  exact h.at_ rfl

/-- How Open goes out. -/
theorem ret_open (w : World) (g : Nat) (a : Act) (k1 l1 s1 : Int) (B : Option Addr) (m c : Nat) (st : Int) (Q : Ending → World → Prop) (h2 : a.tmps[2]?.getD undef = .pointer (some ⟨g, 0, none⟩)) (h3 : a.tmps[3]?.getD undef = .int .i64 st) (hd : a.defers = [])
    (hB : Bk w g 28 #[.int .i64 k1, .int .i64 l1, .int .i64 s1, .slice B m c]) (hq : Q (.returned (.tuple #[frV k1 l1 s1 B m c, .int .i64 st])) w) : bodyPost Try.prog Try.f22 Q .ret a w := by
  have c0 := hB.at_ (i := 0) (u := .int .i64 k1) rfl
  have c1 := hB.at_ (i := 1) (u := .int .i64 l1) rfl
  have c2 := hB.at_ (i := 2) (u := .int .i64 s1) rfl
  have c3 := hB.at_ (i := 3) (u := .slice B m c) rfl
  refine bodyPost_ret (v := .tuple #[frV k1 l1 s1 B m c, .int .i64 st]) ?_ hd hq
  unfold frV
  simp [results, Try.results22, go_sem, c0, c1, c2, c3, h2, h3]

set_option maxRecDepth 100000 in
set_option maxHeartbeats 2000000 in
theorem open_erased (A : Option Addr) (l : List UInt8) (n c : Nat) (w : World) (hn : n = l.length) (h0 : 0 < n) (hmax : n ≤ 9223372036854775807) (hr : Rd w A (u8v l)) (hf : l.count 255 = n) :
    Calls Try.prog 22 #[.slice A n c] w fun e w' => e = .returned (.tuple #[noFrame, .int .i64 1]) ∧ Below w.heap.size w w' := by
  have hg0 : ((n : Int) > 0) := by omega
  have hd0 : decide ((n : Int) > 0) = true := by simp; omega
  have HN := hide hn
  have HF := hide hf
  have hb0 := w0_below w
  have hR := w0_res w
  have hff := w0_ff w
  clear hn hf
  unfold noFrame frV
  go_enter Try.func22, Try.ntmps22
  go_wp2_with fail
  change Calls Try.prog 33 _ (w0 w) _
  generalize w0 w = w0 at hb0 hR hff ⊢
  obtain ⟨g, hg⟩ : ∃ g, g = w.heap.size := ⟨_, rfl⟩
  have hrr := hr.below hb0
  rw [← hg] at hR hb0 hff ⊢
  have hlt := hR.lt
  have HG := hide hg
  clear hg hr
  refine (count_any A l n c _ 1 w0 HN.out h0 hrr hff).mono ?_
  rintro e w1 ⟨rfl, rfl⟩
  rw [HF.out]
  have q0 := hR.at_ (i := 0) (u := .int .i64 0) rfl
  have q1 := hR.at_ (i := 1) (u := .int .i64 0) rfl
  have q2 := hR.at_ (i := 2) (u := .int .i64 0) rfl
  have q3 := hR.at_ (i := 3) (u := .slice none 0 0) rfl
  have f0 := hR.free 0
  have f1 := hR.free 1
  have f2 := hR.free 2
  have f3 := hR.free 3
  go_wp2_with fail
  refine ret_open _ g _ 0 0 0 none 0 0 1 _ rfl rfl rfl ((((hR.put 0 (.int .i64 0)).put 1 (.int .i64 0)).put 2 (.int .i64 0)).put 3 (.slice none 0 0)) ⟨rfl, ?_⟩
  rw [← HG.out]
  exact (((hb0.setCell (p := ⟨g, 0, none⟩) (Nat.le_refl _) (.int .i64 0)).setCell (p := ⟨g, 1, none⟩) (Nat.le_refl _) (.int .i64 0)).setCell (p := ⟨g, 2, none⟩) (Nat.le_refl _) (.int .i64 0)).setCell (p := ⟨g, 3, none⟩) (Nat.le_refl _) (.slice none 0 0)

theorem w1_res (w : World) : Bk (w.alloc (.cells #[.int .i64 0, .int .i64 0, .int .i64 0, .slice none 0 0] 28)) w.heap.size 28 #[.int .i64 0, .int .i64 0, .int .i64 0, .slice none 0 0] := Bk.new _ _ _

set_option maxRecDepth 100000 in
set_option maxHeartbeats 2000000 in
theorem open_none (A : Option Addr) (c : Nat) (w : World) :
    Calls Try.prog 22 #[.slice A 0 c] w fun e w' => e = .returned (.tuple #[noFrame, .int .i64 3]) ∧ Below w.heap.size w w' := by
  have hb0 : Below w.heap.size w (w.alloc (.cells #[.int .i64 0, .int .i64 0, .int .i64 0, .slice none 0 0] 28)) := (Below.refl _ _).alloc (Nat.le_refl _) _
  have hR := w1_res w
  have q0 := hR.at_ (i := 0) (u := .int .i64 0) rfl
  have q1 := hR.at_ (i := 1) (u := .int .i64 0) rfl
  have q2 := hR.at_ (i := 2) (u := .int .i64 0) rfl
  have q3 := hR.at_ (i := 3) (u := .slice none 0 0) rfl
  have f0 := hR.free 0
  have f1 := hR.free 1
  have f2 := hR.free 2
  have f3 := hR.free 3
  unfold noFrame frV
  go_enter Try.func22, Try.ntmps22
  go_wp2_with fail
  exact ret_open _ w.heap.size _ 0 0 0 none 0 0 3 _ rfl rfl rfl hR ⟨rfl, hb0⟩

set_option maxRecDepth 100000 in
set_option maxHeartbeats 2000000 in
theorem open_form (A : Option Addr) (l : List UInt8) (n c : Nat) (w : World) (hn : n = l.length) (h0 : 0 < n) (hmax : n ≤ 9223372036854775807) (hr : Rd w A (u8v l)) (hf : l.count 255 ≠ n) (hbad : n < 24 ∨ 4096 < n ∨ l.getD 0 0 ≠ 165 ∨ l.getD (n - 1) 0 ≠ 90) :
    Calls Try.prog 22 #[.slice A n c] w fun e w' => e = .returned (.tuple #[noFrame, .int .i64 3]) ∧ Below w.heap.size w w' := by
  have hg0 : ((n : Int) > 0) := by omega
  have hd0 : decide ((n : Int) > 0) = true := by simp; omega
  have hcf : ((l.count 255 : Int) == (n : Int)) = false := by simp; omega
  generalize hq : ((l.count 255 : Nat) : Int) = q at hcf
  obtain ⟨b, o, rfl, _, hcell⟩ := hr.form (by rw [u8v_length]; omega)
  have hrr := hr.below (w0_below w)
  have hc0 : (w0 w).cell? ⟨b, o, none⟩ = some (.int .u8 ((l.getD 0 0).toNat : Int)) := by
    have := hrr.cells ⟨b, o, none⟩ rfl 0 _ (u8v_get l 0 (by omega))
    rw [Addr.add_lit] at this
    rw [show l.getD 0 0 = l[0]'(by omega) from by simp [List.getD, show 0 < l.length by omega]]
    exact this
  have hcn : (w0 w).cell? ⟨b, o + (n - 1), none⟩ = some (.int .u8 ((l.getD (n - 1) 0).toNat : Int)) := by
    have := hrr.cells ⟨b, o, none⟩ rfl (n - 1) _ (u8v_get l (n - 1) (by omega))
    rw [Addr.add_lit] at this
    rw [show l.getD (n - 1) 0 = l[n - 1]'(by omega) from by simp [List.getD, show n - 1 < l.length by omega]]
    exact this
  have HB : Hid (n < 24 ∨ (24 ≤ n ∧ 4096 < n) ∨ (24 ≤ n ∧ n ≤ 4096 ∧ (((l.getD 0 0).toNat : Int) != 165) = true) ∨ (24 ≤ n ∧ n ≤ 4096 ∧ (((l.getD 0 0).toNat : Int) != 165) = false ∧ (((l.getD (n - 1) 0).toNat : Int) != 90) = true)) := by
    refine hide ?_
    by_cases h1 : n < 24
    · exact .inl h1
    by_cases h2 : 4096 < n
    · exact .inr (.inl ⟨by omega, h2⟩)
    by_cases h3 : l.getD 0 0 = 165
    · refine .inr (.inr (.inr ⟨by omega, by omega, by rw [h3]; rfl, ?_⟩))
      have h4 : l.getD (n - 1) 0 ≠ 90 := by
        rcases hbad with h | h | h | h
        · exact absurd h h1
        · exact absurd h h2
        · exact absurd h3 h
        · exact h
      rw [bne_iff_ne]
      intro e
      exact h4 (UInt8.toNat_inj.1 (by have e2 : ((90 : UInt8)).toNat = 90 := rfl; omega))
    · refine .inr (.inr (.inl ⟨by omega, by omega, ?_⟩))
      rw [bne_iff_ne]
      intro e
      exact h3 (UInt8.toNat_inj.1 (by have e2 : ((165 : UInt8)).toNat = 165 := rfl; omega))
  have HN := hide hn
  have HQ := hide hq
  have hb0 := w0_below w
  have hR := w0_res w
  have hff := w0_ff w
  clear hn hq hf hbad
  generalize ((l.getD 0 0).toNat : Int) = x at hc0 HB
  generalize ((l.getD (n - 1) 0).toNat : Int) = y at hcn HB
  unfold noFrame frV
  go_enter Try.func22, Try.ntmps22
  go_wp2_with fail
  change Calls Try.prog 33 _ (w0 w) _
  generalize w0 w = w0 at hb0 hR hff hrr hc0 hcn ⊢
  obtain ⟨g, hg⟩ : ∃ g, g = w.heap.size := ⟨_, rfl⟩
  rw [← hg] at hR hb0 hff ⊢
  have hlt := hR.lt
  have HG := hide hg
  clear hg hr
  refine (count_any _ l n c _ 1 w0 HN.out h0 hrr hff).mono ?_
  rintro e w1 ⟨rfl, rfl⟩
  rw [HQ.out]
  have q0 := hR.at_ (i := 0) (u := .int .i64 0) rfl
  have q1 := hR.at_ (i := 1) (u := .int .i64 0) rfl
  have q2 := hR.at_ (i := 2) (u := .int .i64 0) rfl
  have q3 := hR.at_ (i := 3) (u := .slice none 0 0) rfl
  have f0 := hR.free 0
  have f1 := hR.free 1
  have f2 := hR.free 2
  have f3 := hR.free 3
  rcases HB.out with o | ⟨o1, o⟩ | ⟨o1, o2, o⟩ | ⟨o1, o2, o3, o⟩
  all_goals
    clear HB
    go_wp2_with fail
    refine ret_open _ g _ 0 0 0 none 0 0 3 _ rfl rfl rfl ((((hR.put 0 (.int .i64 0)).put 1 (.int .i64 0)).put 2 (.int .i64 0)).put 3 (.slice none 0 0)) ⟨rfl, ?_⟩
    rw [← HG.out]
    exact (((hb0.setCell (p := ⟨g, 0, none⟩) (Nat.le_refl _) (.int .i64 0)).setCell (p := ⟨g, 1, none⟩) (Nat.le_refl _) (.int .i64 0)).setCell (p := ⟨g, 2, none⟩) (Nat.le_refl _) (.int .i64 0)).setCell (p := ⟨g, 3, none⟩) (Nat.le_refl _) (.slice none 0 0)
end Go.Proofs.Ytmnhgpkbdiobkaa.OpenW
