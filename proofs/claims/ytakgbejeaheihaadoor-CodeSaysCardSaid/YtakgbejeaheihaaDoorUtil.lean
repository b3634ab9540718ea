/- The walk of granarylaw1.turned. -/
import Derived.Test.YtakgbejeaheihaaDoorSame
set_option linter.unusedVariables false
namespace Go.Proofs.YtakgbejeaheihaaDoor
open Go.RowKit

/-- A list with one bit turned. -/
def flipBit (l : List UInt8) (k : Nat) : List UInt8 := l.set (k / 8) (l.getD (k / 8) 0 ^^^ UInt8.ofNat (2 ^ (k % 8)))
theorem flipBit_length (l : List UInt8) (k : Nat) : (flipBit l k).length = l.length := by simp [flipBit]
theorem flipBit_cells (l : List UInt8) (k : Nat) : u8v (flipBit l k) = (u8v l).set (k / 8) (.int .u8 ((l.getD (k / 8) 0 ^^^ UInt8.ofNat (2 ^ (k % 8))).toNat : Int)) := by
  unfold flipBit u8v
  rw [List.map_set]

/-- What 'turned' gives. -/
def turnL (l c : List UInt8) (k : Nat) : List UInt8 × List UInt8 := if k < 8 * l.length then (flipBit l k, c) else (l, flipBit c (k - 8 * l.length))

theorem turnL_low {l c : List UInt8} {k : Nat} (h : k < 8 * l.length) : turnL l c k = (flipBit l k, c) := if_pos h
theorem turnL_high {l c : List UInt8} {k : Nat} (h : ¬ k < 8 * l.length) : turnL l c k = (l, flipBit c (k - 8 * l.length)) := if_neg h

/-- The cell that is turned. -/
theorem get_cell {w : World} {base : Nat} {e : TypeId} {g n cap : Nat} {l : List UInt8} (h : w.ownsRow base e 1 (.slice (some ⟨g, 0, none⟩) n cap) n (u8v l)) (i : Nat) (hi : i < n) (hn : n = l.length) : w.cell? ⟨g, i, none⟩ = some (.int .u8 ((l.getD i 0).toNat : Int)) := by
  rw [h.cellAt i (by omega), u8v_get l i (by omega)]
  simp [List.getD, show i < l.length by omega]

theorem xor_bit (z : UInt8) (j : Nat) : bits .xor .u8 (z.toNat : Int) (2 ^ (j % 8) % 256) = ((z ^^^ UInt8.ofNat (2 ^ (j % 8))).toNat : Int) := by
  have hz := z.toNat_lt
  have hp : (2 : Nat) ^ (j % 8) ≤ 2 ^ 7 := Nat.pow_le_pow_right (by omega) (by omega)
  have e : ((2 : Int) ^ (j % 8) % 256) = ((2 ^ (j % 8) : Nat) : Int) := by
    have : ((2 : Int) ^ (j % 8)) = ((2 ^ (j % 8) : Nat) : Int) := by simp
    rw [this]
    generalize 2 ^ (j % 8) = q at hp
    omega
  rw [e, u8_xor_nat _ _ (by omega) (by omega), UInt8.toNat_xor, UInt8.toNat_ofNat', Nat.mod_eq_of_lt (a := 2 ^ (j % 8)) (by omega)]

attribute [local irreducible] pickN turnL

set_option maxRecDepth 100000 in
set_option maxHeartbeats 1000000 in
theorem turned_any (A C : Option Addr) (l c : List UInt8) (n m cap capc : Nat) (at_ : Int) (w : World) (hn : n = l.length) (hm : m = c.length) (hpos : 0 < n + m) (hl : n ≤ 140737488351232) (hl2 : m ≤ 140737488351232)
    (h1 : -9223372036854775808 ≤ at_) (h2 : at_ ≤ 9223372036854775807) (hr : Rd w A (u8v l)) (hs : Rd w C (u8v c)) :
    Calls Tryd.prog 16 #[.slice A n cap, .slice C m capc, .int .i64 at_] w fun e w' => ∃ v1 v2, e = .returned (.tuple #[v1, v2]) ∧
      w'.ownsRow w.heap.size 5 1 v1 n (u8v (turnL l c (pickN at_ (8 * (n + m)))).1) ∧ w'.ownsRow w.heap.size 5 1 v2 m (u8v (turnL l c (pickN at_ (8 * (n + m)))).2) ∧ Below w.heap.size w w' := by
  obtain ⟨i0, hi0, hz0, hz1, hz2⟩ := info_parts u8_info
  have HN := hide hn
  have HM := hide hm
  clear hn hm
  have hpk := pickN_lt at_ (8 * (n + m)) (by omega)
  have hb1 : Below w.heap.size w (w.alloc (.cells #[] 5)) := (Below.refl _ _).alloc (Nat.le_refl _) _
  go_enter Tryd.func16, Tryd.ntmps16
  go_wp2_with (first
    | (at_builtin
       refine wpList_append_rd _ rfl (.tmp 11) (.tmp 12) 22 rfl w.heap.size 5 i0 _ 1 Tryd.underlying22 hi0 hz0 hz1 hz2 rfl (.slice (some ⟨w.heap.size, 0, none⟩) 0 0) 0 [] rfl (by exact own_new w _ _ #[] 0 (Nat.le_refl _) (by simp) rfl) A n cap (u8v l) rfl (by rw [u8v_length, ← HN.out]) (by exact hr.alloc _) (u8v_one l) (by simp only [maxLen]; omega) (by omega) (by simp) ?_
       intro vA w2 hownA hgA
       have hb2 : Below w.heap.size w w2 := hb1.grown hgA hb1.size (by intro k hk; simp [Value.ownBlock] at hk; omega)
       have hsz2 := hb2.size
       simp only [Nat.zero_add, List.nil_append] at hownA
       obtain ⟨AA, cA, rfl, hcA, -, hrdA, -, hltA⟩ := own_form hownA
       have HLA := hide hltA
       clear hltA)
    | (at_builtin
       refine wpList_append_rd _ rfl (.tmp 14) (.tmp 15) 22 rfl w2.heap.size 5 i0 _ 1 Tryd.underlying22 hi0 hz0 hz1 hz2 rfl (.slice (some ⟨w2.heap.size, 0, none⟩) 0 0) 0 [] rfl (by exact own_new w2 _ _ #[] 0 (Nat.le_refl _) (by simp) rfl) C m capc (u8v c) rfl (by rw [u8v_length, ← HM.out]) (by exact (hs.below hb2).alloc _) (u8v_one c) (by simp only [maxLen]; omega) (by omega) (by simp) ?_
       intro vB w3 hownB hgB
       simp only [Nat.zero_add, List.nil_append] at hownB
       obtain ⟨AB, cB, rfl, hcB, -, hrdB, -, hltB⟩ := own_form hownB
       have HLB := hide hltB
       clear hltB)
    | (go_at_call 15; refine (pick_any at_ (8 * (n + m)) _ (by omega) (by omega) (by omega) h1 h2 _).mono ?_; rintro e w' ⟨rfl, rfl⟩))
  all_goals have hb3 : Below w2.heap.size w2 w3 := ((Below.refl _ w2).alloc (Nat.le_refl _) _).grown hgB (by simp) (by intro k hk; simp [Value.ownBlock] at hk; omega)
  all_goals
    have hb4 := hb2.trans (hb3.mono hsz2)
    have hownA3 := own_below hownA hb3 (Nat.le_refl _)
    have hsz3 := hb4.size
  · have hlt : (pickN at_ (8 * (n + m)) : Int) < 8 * (n : Int) := by assumption
    obtain ⟨gA, rfl, hgA1, hgA2⟩ := own_at hownA (by omega)
    have hi : pickN at_ (8 * (n + m)) / 8 < n := by omega
    have hcell := get_cell hownA3 _ hi HN.out
    have hfree := hownA3.frozenAt (pickN at_ (8 * (n + m)) / 8)
    have hxb := xor_bit (l.getD (pickN at_ (8 * (n + m)) / 8) 0) (pickN at_ (8 * (n + m)))
    have HXB := hide hxb
    clear hxb
    go_region
    go_wp2
    go_ret2
    have hxb := HXB.out
    simp only [List.getD_eq_getElem?_getD] at hxb
    rw [hxb, turnL_low (by rw [← HN.out]; omega)]
    refine ⟨_, _, rfl, ?_, ?_, (hb4.setCell (p := ⟨gA, pickN at_ (8 * (n + m)) / 8, none⟩) hgA1 _).drew⟩
    · simp only [flipBit_cells, List.getD_eq_getElem?_getD]
      exact (hownA3.stored _ _).1
    · refine World.ownsRow.drew (own_base (hownB.kept (hownA3.stored _ _).2 ?_) hsz2)
      right
      intro e
      have := (HLB.out gA e).1
      omega
  · have hge : 8 * (n : Int) ≤ (pickN at_ (8 * (n + m)) : Int) := by assumption
    obtain ⟨q, hq⟩ : ∃ q, q = pickN at_ (8 * (n + m)) - 8 * n := ⟨_, rfl⟩
    have hE : (pickN at_ (8 * (n + m)) : Int) - 8 * (n : Int) = (q : Int) := by omega
    have hql : q < 8 * m := by omega
    obtain ⟨gB, rfl, hgB1, hgB2⟩ := own_at hownB (by omega)
    have hi : q / 8 < m := by omega
    have hcell := get_cell hownB _ hi HM.out
    have hfree := hownB.frozenAt (q / 8)
    have HXB := hide (xor_bit (c.getD (q / 8) 0) q)
    have HQ := hide hq
    clear hq
    go_region
    go_wp2
    go_ret2
    have hxb := HXB.out
    simp only [List.getD_eq_getElem?_getD] at hxb
    rw [hxb, turnL_high (by rw [← HN.out]; omega), ← HN.out, ← HQ.out]
    refine ⟨_, _, rfl, ?_, ?_, (hb4.setCell (p := ⟨gB, q / 8, none⟩) (Nat.le_trans hsz2 hgB1) _).drew⟩
    · refine World.ownsRow.drew (hownA3.kept (hownB.stored _ _).2 ?_)
      right
      intro e
      have := (HLA.out gB e).2
      omega
    · simp only [flipBit_cells, List.getD_eq_getElem?_getD]
      exact own_base (hownB.stored _ _).1 hsz2


end Go.Proofs.YtakgbejeaheihaaDoor
