/- The walk of slot.open. -/
import Derived.Test.YtmjnfjbbdebddaaDoorSlotW
import Derived.Test.YtmjnfjbbdebddaaDoorCrc
import Derived.Deep.RegionHeld3
set_option linter.unusedVariables false
namespace Go.Proofs.YtmjnfjbbdebddaaDoor.SlotW
open Go.RowKit Fram SlotP CrcW Crc

theorem rd_part {w : World} {b o : Nat} {l : List UInt8} (h : Rd w (some ⟨b, o, none⟩) (u8v l)) (i k : Nat) : Rd w (some ⟨b, o + i, none⟩) (u8v ((l.drop i).take k)) := by
  rcases h with h | ⟨b', o', e, hc⟩
  · rw [show u8v ((l.drop i).take k) = [] by
      have : l = [] := by simpa [u8v] using h
      subst this; simp [u8v]]
    exact Rd.nil _ _
  · injection e with e
    injection e with e1 e2
    subst e1; subst e2
    refine .inr ⟨b, o + i, rfl, fun j u hu => ?_⟩
    rw [Nat.add_assoc]
    refine hc (i + j) u ?_
    simp only [u8v, List.getElem?_map, List.getElem?_take, List.getElem?_drop] at hu ⊢
    split at hu
    · exact hu
    · cases hu

attribute [local irreducible] seqS longS bodyS sumS

theorem num_seq (l : List UInt8) (b o k cap : Nat) (w : World) (hk : k = 8) (h : 8 ≤ l.length) (hr : Rd w (some ⟨b, o, none⟩) (u8v l)) :
    Calls Tryd.prog 46 #[.slice (some ⟨b, o, none⟩) k cap] w fun e w' => e = .returned (.int .u64 (seqS l)) ∧ w = w' := by
  have := number_any (some ⟨b, o, none⟩) (l.take 8) k cap w (by simp; omega) (by simp; omega) (by simpa using rd_part hr 0 8)
  unfold seqS
  exact this
theorem num_long (l : List UInt8) (b o k cap : Nat) (w : World) (hk : k = 4) (h : 12 ≤ l.length) (hr : Rd w (some ⟨b, o, none⟩) (u8v l)) :
    Calls Tryd.prog 46 #[.slice (some ⟨b, o + 8, none⟩) k cap] w fun e w' => e = .returned (.int .u64 (longS l)) ∧ w = w' := by
  have := number_any (some ⟨b, o + 8, none⟩) ((l.drop 8).take 4) k cap w (by simp; omega) (by simp; omega) (rd_part hr 8 4)
  unfold longS
  exact this
theorem num_sum (l : List UInt8) (b o k cap q : Nat) (w : World) (hk : k = 4) (hq : q = 12 + longS l) (h : 16 + longS l ≤ l.length) (hr : Rd w (some ⟨b, o, none⟩) (u8v l)) :
    Calls Tryd.prog 46 #[.slice (some ⟨b, o + q, none⟩) k cap] w fun e w' => e = .returned (.int .u64 (sumS l)) ∧ w = w' := by
  subst hq
  have := number_any (some ⟨b, o + (12 + longS l), none⟩) ((l.drop (12 + longS l)).take 4) k cap w (by simp; omega) (by simp; omega) (rd_part hr (12 + longS l) 4)
  unfold sumS
  exact this
theorem crc_part (l : List UInt8) (b o k cap q : Nat) (w : World) (hq : k = 12 + longS l) (h : 16 + longS l ≤ l.length) (hm : longS l ≤ 4096) (hr : Rd w (some ⟨b, o, none⟩) (u8v l)) :
    Calls Tryd.prog 29 #[.slice (some ⟨b, o, none⟩) k cap] w fun e w' => e = .returned (.int .u32 (crc (l.take (12 + longS l))).toNat) ∧ w = w' := by
  subst hq
  exact crc_any (some ⟨b, o, none⟩) (l.take (12 + longS l)) (12 + longS l) cap w (by simp; omega) (by omega) (by simpa using rd_part hr 0 (12 + longS l))

/-- What open answers. -/
def OpenPost (w : World) (l : List UInt8) (e : Ending) (w' : World) : Prop :=
  Below w.heap.size w w' ∧ ((¬ Whole l ∧ e = .returned (.pointer none)) ∨
    (Whole l ∧ ∃ (g : Nat) (B : Option Addr) (c : Nat), e = .returned (.pointer (some ⟨g, 0, none⟩)) ∧ w.heap.size ≤ g ∧ Bk w' g 84 #[.int .i64 (seqS l), .slice B (longS l) c] ∧ Rd w' B (u8v (bodyS l)) ∧ longS l ≤ c))

set_option maxRecDepth 100000 in
set_option maxHeartbeats 2000000 in
theorem open_any (A : Option Addr) (l : List UInt8) (n c : Nat) (w : World) (hn : n = l.length) (hnc : n ≤ c) (hcm : c ≤ 9223372036854775807) (hr : Rd w A (u8v l)) :
    Calls Tryd.prog 37 #[.slice A n c] w (OpenPost w l) := by
  have HN := hide hn
  by_cases h16 : n < 16
  · have HW : Hid (¬ Whole l) := hide fun h => by have := h.1; omega
    clear hn
    go_enter Tryd.func37, Tryd.ntmps37
    go_wp2
    go_ret
    exact ⟨Below.refl _ _, .inl ⟨HW.out, rfl⟩⟩
  obtain ⟨b, o, rfl, hbw, -⟩ := hr.form (by rw [u8v_length]; omega)
  have hl16 : 16 ≤ l.length := by omega
  have hsl := seqS_lt l
  have hll := longS_lt l
  have y1 : ¬ c = 8 := by omega
  have y2 : ¬ c = 12 := by omega
  have z1 : (8 : Int) ≤ (c : Int) := by omega
  have z2 : (12 : Int) ≤ (c : Int) := by omega
  have HL16 := hide hl16
  have HN2 := hide hn
  obtain ⟨L, hL⟩ : ∃ L, L = longS l := ⟨_, rfl⟩
  obtain ⟨sq, hsq⟩ : ∃ sq : Int, sq = (seqS l : Int) := ⟨_, rfl⟩
  have HLL := hide hL
  have HSQ := hide hsq
  have hsl0 : 0 ≤ sq := by omega
  have hsl1 : sq ≤ 18446744073709551615 := by omega
  have hll : L < 4294967296 := by omega
  clear hn hl16 hsl hL hsq
  have xL : IntKind.i64.wrap (L : Int) = (L : Int) := by rw [IntKind.wrap_i64]; omega
  go_enter Tryd.func37, Tryd.ntmps37
  go_wp2_with fail
  go_region_with (first
    | (go_at_call 46
       with_reducible refine (num_seq l b o _ _ _ rfl (by have := HL16.out; omega) ?_).mono ?_
       · first | exact hr.drew | exact hr
       rintro e w' ⟨rfl, rfl⟩
       rw [← HSQ.out])
    | (go_at_call 46
       with_reducible refine (num_long l b o _ _ _ rfl (by have := HL16.out; omega) ?_).mono ?_
       · first | exact hr.drew | exact hr
       rintro e w' ⟨rfl, rfl⟩
       rw [← HLL.out]))
  by_cases hs : sq ≤ 4611686018427387904
  rotate_left
  · have HW : Hid (¬ Whole l) := hide fun h => by have := h.2.1; have := HSQ.out; omega
    have hs' : 4611686018427387904 < sq := by omega
    clear hs
    go_wp2_with fail
    go_ret
    exact ⟨(Below.refl _ _).drew, .inl ⟨HW.out, rfl⟩⟩
  by_cases hg : L ≤ 4096
  rotate_left
  · have HW : Hid (¬ Whole l) := hide fun h => by have := h.2.2.1; have := HLL.out; omega
    have hs' : (4096 : Int) < (L : Int) := by omega
    clear hg
    go_wp2_with fail
    go_ret
    exact ⟨(Below.refl _ _).drew, .inl ⟨HW.out, rfl⟩⟩
  have hg' : (L : Int) ≤ 4096 := by omega
  by_cases hk : 16 + L ≤ n
  rotate_left
  · have HW : Hid (¬ Whole l) := hide fun h => by have := h.2.2.2.1; have := HLL.out; have := HN.out; omega
    have hs' : (n : Int) < 16 + (L : Int) := by omega
    clear hk
    go_wp2_with fail
    go_ret
    exact ⟨(Below.refl _ _).drew, .inl ⟨HW.out, rfl⟩⟩
  have hk' : 16 + (L : Int) ≤ (n : Int) := by omega
  have x1 : (12 + (L : Int)).toNat = 12 + L := by omega
  have x2 : (12 + (L : Int) + 4).toNat = 12 + L + 4 := by omega
  have x3 : 12 + (L : Int) ≤ (c : Int) := by omega
  have x4 : 12 + (L : Int) + 4 ≤ (c : Int) := by omega
  have x5 : ¬ c = 12 + L := by omega
  obtain ⟨C, hC⟩ : ∃ C, C = (crc (l.take (12 + longS l))).toNat := ⟨_, rfl⟩
  have hCl : C < 4294967296 := by have := (crc (l.take (12 + longS l))).isLt; omega
  obtain ⟨S, hS⟩ : ∃ S, S = sumS l := ⟨_, rfl⟩
  have HC := hide hC
  have HS := hide hS
  have xC : IntKind.u64.wrap (C : Int) = (C : Int) := by rw [IntKind.wrap_u64]; omega
  have x6 : 12 + L + 4 - (12 + L) = 4 := by omega
  have x7 : IntKind.i64.wrap (12 + (L : Int) + 4) = 12 + (L : Int) + 4 := by rw [IntKind.wrap_i64]; omega
  have x8 : (0 : Int) ≤ 12 + (L : Int) := by omega
  have x9 : 12 + (L : Int) ≤ 12 + (L : Int) + 4 := by omega
  clear hC hS
  go_wp2_with fail
  go_region_with (first
    | (go_at_call 29
       with_reducible refine (crc_part l b o _ _ 0 _ (by have := HLL.out; omega) (by have := HLL.out; have := HN.out; omega) (by have := HLL.out; omega) ?_).mono ?_
       · first | exact hr.drew | exact hr
       rintro e w' ⟨rfl, rfl⟩
       rw [← HC.out])
    | (go_at_call 46
       with_reducible refine (num_sum l b o _ _ _ _ (by first | rfl | omega) (by have := HLL.out; omega) (by have := HLL.out; have := HN.out; omega) ?_).mono ?_
       · first | exact hr.drew | exact hr
       rintro e w' ⟨rfl, rfl⟩
       rw [← HS.out]))
  by_cases hcs : C = S
  rotate_left
  · have HW : Hid (¬ Whole l) := hide fun h => hcs (by rw [HC.out, HS.out]; exact h.2.2.2.2)
    have hcs' : ((C : Int) != (S : Int)) = true := by simp; omega
    clear hcs
    go_wp2_with fail
    go_ret
    exact ⟨(Below.refl _ _).drew.drew, .inl ⟨HW.out, rfl⟩⟩
  have HW : Hid (Whole l) := hide ⟨HL16.out, by have := HSQ.out; omega, by rw [← HLL.out]; exact hg, by rw [← HLL.out, ← HN.out]; exact hk, by rw [← HC.out, ← HS.out]; exact hcs⟩
  have HBL : Hid (L = (bodyS l).length) := hide (by rw [bodyS_length (by rw [← HLL.out, ← HN.out]; exact hk)]; exact HLL.out)
  have hrb : Rd w (some ⟨b, o + 12, none⟩) (u8v (bodyS l)) := by unfold bodyS; exact rd_part hr 12 _
  obtain ⟨i0, hi0, hz0, hz1, hz2⟩ := info_parts u8_info
  have hcs' : ((C : Int) != (S : Int)) = false := by simp; omega
  have xs : IntKind.i64.wrap sq = sq := by rw [IntKind.wrap_i64]; omega
  have x10 : (12 : Int) ≤ 12 + (L : Int) := by omega
  have x11 : 12 + L - 12 = L := by omega
  clear hcs
  go_wp2_with (first
    | (at_builtin
       refine wpList_append_rd _ rfl _ _ 22 rfl w.heap.size 5 i0 _ 1 Tryd.underlying22 hi0 hz0 hz1 hz2 rfl (.slice none 0 0) 0 [] rfl (by exact World.ownsRow_nil _ _ _ _) (some ⟨b, o + 12, none⟩) L (c - 12) (u8v (bodyS l)) rfl (by rw [u8v_length, ← HBL.out]) (by exact hrb.drewN 2) (u8v_one _) ?_ ?_ ?_ ?_
       · simp only [maxLen]; omega
       · omega
       · exact Nat.le_refl _
       intro v' w4 hown4 hg4
       have hb4 := below_of_grown (B := w.heap.size) hg4 (Nat.le_refl _) (by intro k hk; simp [Value.ownBlock] at hk)
       have hs4 := hg4.size
       simp only [Nat.zero_add, List.nil_append] at hown4
       obtain ⟨B, c', rfl, hc', -, hrB, -, -⟩ := own_form hown4))
  go_ret
  have hb5 : Below w.heap.size w w4 := ((Below.refl w.heap.size w).drew.drew).trans hb4
  refine ⟨hb5.alloc hb5.size _, .inr ⟨HW.out, _, B, c', rfl, hb5.size, ?_, ?_, ?_⟩⟩
  · rw [← HSQ.out, ← HLL.out]
    exact Bk.new _ _ _
  · exact hrB.alloc _
  · rw [← HLL.out]; exact hc'
end Go.Proofs.YtmjnfjbbdebddaaDoor.SlotW
