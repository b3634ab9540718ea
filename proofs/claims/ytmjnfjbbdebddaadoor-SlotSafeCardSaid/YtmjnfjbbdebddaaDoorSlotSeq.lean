/- The walks of granaryref1.SlotSeq and of slot.Next. -/
import Derived.Test.YtmjnfjbbdebddaaDoorSlotRef
import Derived.Test.YtmjnfjbbdebddaaDoorRefLow
set_option linter.unusedVariables false
namespace Go.Proofs.YtmjnfjbbdebddaaDoor.SlotW
open Go.RowKit Fram SlotP CrcW Crc RefW

/-- The eighth byte says whether the number is too great for an int. -/
theorem top_byte {l : List UInt8} (h : 16 ≤ l.length) : ((l.getD 7 0).toNat > 127 ↔ 9223372036854775808 ≤ seqS l) := by
  have e1 : l.take 8 = l.take 7 ++ [l.getD 7 0] := by
    rw [List.take_succ_eq_append_getElem (show 7 < l.length by omega)]
    simp [List.getD, show 7 < l.length by omega]
  have e2 : seqS l = leN (l.take 7) + (l.getD 7 0).toNat * 72057594037927936 := by
    unfold seqS
    rw [e1, leN_snoc]
    simp [show (min 7 l.length) = 7 by omega]
  have h2 := leN_lt (l.take 7)
  rw [show (l.take 7).length = 7 by simp; omega] at h2
  have h3 : (256 : Nat) ^ 7 = 72057594037927936 := by decide
  omega

def SeqPost (w : World) (l : List UInt8) (e : Ending) (w' : World) : Prop :=
  Below w.heap.size w w' ∧ ((¬ Whole l ∧ e = .returned (.tuple #[.int .i64 (-1), .slice none 0 0])) ∨
    (Whole l ∧ ∃ (B : Option Addr) (c : Nat), e = .returned (.tuple #[.int .i64 (seqS l), .slice B (longS l) c]) ∧ Rd w' B (u8v (bodyS l)) ∧ longS l ≤ c))

theorem ofLow_seq (l : List UInt8) (b o k cap : Nat) (w : World) (hk : k = 8) (h : 16 ≤ l.length) (ht : seqS l < 9223372036854775808) (hr : Rd w (some ⟨b, o, none⟩) (u8v l)) :
    Calls Tryd.prog 36 #[.slice (some ⟨b, o, none⟩) k cap] w fun e w' => e = .returned (.int .i64 (seqS l)) ∧ w = w' := by
  unfold seqS at ht ⊢
  exact ofLow_any (some ⟨b, o, none⟩) (l.take 8) k cap w (by simp; omega) (by simp; omega) ht (by simp; omega) (by simpa using rd_part hr 0 8)
theorem ofLow_long (l : List UInt8) (b o k cap : Nat) (w : World) (hk : k = 4) (h : 16 ≤ l.length) (hr : Rd w (some ⟨b, o, none⟩) (u8v l)) :
    Calls Tryd.prog 36 #[.slice (some ⟨b, o + 8, none⟩) k cap] w fun e w' => e = .returned (.int .i64 (longS l)) ∧ w = w' := by
  have ht := longS_lt l
  unfold longS at ht ⊢
  exact ofLow_any (some ⟨b, o + 8, none⟩) ((l.drop 8).take 4) k cap w (by simp; omega) (by simp; omega) (by omega) (by simp; omega) (rd_part hr 8 4)

attribute [local irreducible] slotB headB lowB seqS longS bodyS sumS

set_option maxRecDepth 100000 in
set_option maxHeartbeats 2000000 in
theorem seq_any (A : Option Addr) (l : List UInt8) (n c : Nat) (w : World) (hn : n = l.length) (hnc : n ≤ c) (hcm : c ≤ 9223372036854775807) (hr : Rd w A (u8v l)) :
    Calls Tryd.prog 17 #[.slice A n c] w (SeqPost w l) := by
  have HN := hide hn
  by_cases h16 : n < 16
  · have HW : Hid (¬ Whole l) := hide fun h => by have := h.1; omega
    clear hn
    go_enter Tryd.func17, Tryd.ntmps17
    go_wp2_with fail
    go_ret2
    exact ⟨Below.refl _ _, .inl ⟨HW.out, rfl⟩⟩
  obtain ⟨b, o, rfl, hbw, hcell⟩ := hr.form (by rw [u8v_length]; omega)
  have hl16 : 16 ≤ l.length := by omega
  have htop := top_byte hl16
  have hc7 : w.cell? ⟨b, o + 7, none⟩ = some (.int .u8 ((l.getD 7 0).toNat : Int)) := by
    have := hcell 7 (by rw [u8v_length]; omega)
    rw [this]
    simp [u8v, List.getD, show 7 < l.length by omega]
  obtain ⟨z, hz⟩ : ∃ z, z = (l.getD 7 0).toNat := ⟨_, rfl⟩
  rw [← hz] at hc7 htop
  have hzl : z < 256 := by have := (l.getD 7 0).toNat_lt; omega
  have HL16 := hide hl16
  have HTOP := hide htop
  clear hz hcell hl16 htop hn
  by_cases h7 : 127 < z
  · have HW : Hid (¬ Whole l) := hide fun h => by have := h.2.1; have := HTOP.out.1 h7; omega
    have h7' : (127 : Int) < (z : Int) := by omega
    go_enter Tryd.func17, Tryd.ntmps17
    go_wp2_with fail
    go_ret2
    exact ⟨Below.refl _ _, .inl ⟨HW.out, rfl⟩⟩
  have h7' : ¬ (127 : Int) < (z : Int) := by omega
  have HSL : Hid (seqS l < 9223372036854775808) := hide (by have := HTOP.out; omega)
  have hll := longS_lt l
  have hsl : seqS l < 9223372036854775808 := HSL.out
  have y1 : ¬ c = 8 := by omega
  have y2 : ¬ c = 12 := by omega
  have z1 : (8 : Int) ≤ (c : Int) := by omega
  have z2 : (12 : Int) ≤ (c : Int) := by omega
  obtain ⟨L, hL⟩ : ∃ L, L = longS l := ⟨_, rfl⟩
  obtain ⟨sq, hsq⟩ : ∃ sq : Int, sq = (seqS l : Int) := ⟨_, rfl⟩
  have HLL := hide hL
  have HSQ := hide hsq
  have hsl0 : 0 ≤ sq := by omega
  have hsl1 : sq ≤ 9223372036854775807 := by omega
  have hll : L < 4294967296 := by omega
  clear hsl hL hsq
  go_enter Tryd.func17, Tryd.ntmps17
  go_wp2_with fail
  refine (ofLow_seq l b o _ _ _ rfl HL16.out HSL.out hr).mono ?_
  rintro e w1 ⟨rfl, rfl⟩
  rw [← HSQ.out]
  go_wp2_with fail
  refine (ofLow_long l b o _ _ _ rfl HL16.out hr).mono ?_
  rintro e w1 ⟨rfl, rfl⟩
  rw [← HLL.out]
  go_wp2_with fail
  by_cases hs : sq ≤ 4611686018427387904
  rotate_left
  · have HW : Hid (¬ Whole l) := hide fun h => by have := h.2.1; have := HSQ.out; omega
    refine (fault_range sq _ _ (.inr (by omega))).mono ?_
    rintro e w1 ⟨rfl, rfl⟩
    go_wp2_with fail
    go_ret2
    exact ⟨Below.refl _ _, .inl ⟨HW.out, rfl⟩⟩
  refine (fault_ok sq none 0 0 _ hsl0 hs (by omega)).mono ?_
  rintro e w1 ⟨rfl, rfl⟩
  by_cases hg : L ≤ 4096
  rotate_left
  · have HW : Hid (¬ Whole l) := hide fun h => by have := h.2.2.1; have := HLL.out; omega
    have hs' : (4096 : Int) < (L : Int) := by omega
    clear hg
    go_wp2_with fail
    go_ret2
    exact ⟨Below.refl _ _, .inl ⟨HW.out, rfl⟩⟩
  have hg' : (L : Int) ≤ 4096 := by omega
  by_cases hk : 16 + L ≤ n
  rotate_left
  · have HW : Hid (¬ Whole l) := hide fun h => by have := h.2.2.2.1; have := HLL.out; have := HN.out; omega
    have hs' : (n : Int) < 16 + (L : Int) := by omega
    clear hk
    go_wp2_with fail
    go_ret2
    exact ⟨Below.refl _ _, .inl ⟨HW.out, rfl⟩⟩
  have hk' : 16 + (L : Int) ≤ (n : Int) := by omega
  have x1 : (12 + (L : Int)).toNat = 12 + L := by omega
  have x2 : (16 + (L : Int)).toNat = 16 + L := by omega
  have x3 : 12 + (L : Int) ≤ (c : Int) := by omega
  have x4 : 16 + (L : Int) ≤ (c : Int) := by omega
  have x6 : 12 + L - 12 = L := by omega
  have x8 : (0 : Int) ≤ 12 + (L : Int) := by omega
  have x9 : (0 : Int) ≤ 16 + (L : Int) := by omega
  have x10 : (12 : Int) ≤ 12 + (L : Int) := by omega
  have HBL : Hid (L = (bodyS l).length) := hide (by rw [bodyS_length (by rw [← HLL.out, ← HN.out]; exact hk)]; exact HLL.out)
  have hrb : Rd w (some ⟨b, o + 12, none⟩) (u8v (bodyS l)) := by unfold bodyS; exact rd_part hr 12 _
  have hrt : Rd w (some ⟨b, o, none⟩) (u8v (l.take (16 + L))) := by simpa using rd_part hr 0 (16 + L)
  go_wp2_with fail
  refine (slotOf_any sq (some ⟨b, o + 12, none⟩) (bodyS l) L _ _ HBL.out hsl0 hs hg hrb).mono ?_
  rintro e w2 ⟨B2, c2, rfl, hc2, ho2, hb2⟩
  have hr2 := own_rd ho2
  have hrt2 := hrt.below hb2
  have hrb2 := hrb.below hb2
  have HSB := hide (show 16 + L = (slotB sq.toNat (bodyS l)).length by rw [slotB_length, ← HBL.out])
  have HTL := hide (show 16 + L = (l.take (16 + L)).length by rw [List.length_take, ← HN.out]; omega)
  have HIFF : Hid (slotB sq.toNat (bodyS l) = l.take (16 + L) ↔ (crc (l.take (12 + L))).toNat = sumS l) := by
    have h := whole_iff (l := l) HL16.out (by rw [← HLL.out, ← HN.out]; exact hk)
    rw [← HLL.out] at h
    refine hide ?_
    rw [h, show sq.toNat = seqS l by have := HSQ.out; omega]
    exact ⟨fun h => h.symm, fun h => h.symm⟩
  by_cases heq : slotB sq.toNat (bodyS l) = l.take (16 + L)
  · have HW : Hid (Whole l) := hide ⟨HL16.out, by have := HSQ.out; omega, by rw [← HLL.out]; exact hg, by rw [← HLL.out, ← HN.out]; exact hk, by rw [← HLL.out]; exact HIFF.out.1 heq⟩
    have HR := hide (show true = decide (slotB sq.toNat (bodyS l) = l.take (16 + L)) from (decide_eq_true heq).symm)
    clear heq
    go_wp2_with fail
    refine (same_any B2 (some ⟨b, o, none⟩) (slotB sq.toNat (bodyS l)) (l.take (16 + L)) (16 + L) (16 + L) _ _ _ HSB.out HTL.out (by omega) hr2 hrt2 _ HR.out).mono ?_
    rintro e w3 ⟨rfl, d, rfl⟩
    go_wp2_with fail
    go_region
    go_wp2_with fail
    go_ret2
    have hb3 := (below_drewN hb2 d).drew
    rw [HSQ.out]
    exact ⟨hb3, .inr ⟨HW.out, some ⟨b, o + 12, none⟩, c - 12, by rw [← HLL.out]; rfl, (hrb2.drewN d).drew, by rw [← HLL.out]; omega⟩⟩
  · have HW : Hid (¬ Whole l) := hide fun h => heq (HIFF.out.2 (by rw [HLL.out]; exact h.2.2.2.2))
    have HR := hide (show false = decide (slotB sq.toNat (bodyS l) = l.take (16 + L)) from (decide_eq_false heq).symm)
    clear heq
    go_wp2_with fail
    refine (same_any B2 (some ⟨b, o, none⟩) (slotB sq.toNat (bodyS l)) (l.take (16 + L)) (16 + L) (16 + L) _ _ _ HSB.out HTL.out (by omega) hr2 hrt2 _ HR.out).mono ?_
    rintro e w3 ⟨rfl, d, rfl⟩
    go_wp2_with fail
    go_ret2
    exact ⟨below_drewN hb2 d, .inl ⟨HW.out, rfl⟩⟩

def NextPost (w : World) (a b : List UInt8) (e : Ending) (w' : World) : Prop :=
  Below w.heap.size w w' ∧ ((¬ Whole a ∧ ¬ Whole b ∧ e = .returned (.int .i64 0)) ∨ (∃ (k : Int) (l : List UInt8), Sel a b k l ∧ e = .returned (.int .i64 (1 - k))))

theorem sel_k {a b : List UInt8} {k : Int} {l : List UInt8} (h : Sel a b k l) : 0 ≤ k ∧ k ≤ 1 := by
  rcases h with ⟨rfl, _⟩ | ⟨rfl, _⟩ <;> omega

set_option maxHeartbeats 1000000 in
theorem next_any (A C : Option Addr) (a b : List UInt8) (n m c d : Nat) (w : World) (hn : n = a.length) (hm : m = b.length) (hnc : n ≤ c) (hmd : m ≤ d) (hcm : c ≤ 9223372036854775807) (hdm : d ≤ 9223372036854775807) (ra : Rd w A (u8v a)) (rb : Rd w C (u8v b)) :
    Calls Tryd.prog 19 #[.slice A n c, .slice C m d] w (NextPost w a b) := by
  have HN := hide hn
  have HM := hide hm
  clear hn hm
  go_enter Tryd.func19, Tryd.ntmps19
  go_wp2_with fail
  refine (choose_any A C a b n m c d _ HN.out HM.out hnc hmd hcm hdm ra rb).mono ?_
  rintro e w2 ⟨hb2, h2⟩
  rcases h2 with ⟨hWa, hWb, rfl⟩ | ⟨k, l, B2, c2, hS2, rfl, hr2, hc2⟩
  · go_wp2_with fail
    go_ret
    exact ⟨hb2, .inl ⟨hWa, hWb, rfl⟩⟩
  · obtain ⟨hk0, hk1⟩ := sel_k hS2
    go_wp2_with fail
    go_ret
    exact ⟨hb2, .inr ⟨k, l, hS2, rfl⟩⟩

theorem sel_unique {a b : List UInt8} {k j : Int} {l m : List UInt8} (h : Sel a b k l) (h2 : Sel a b j m) : k = j ∧ l = m := by
  rcases h with ⟨rfl, rfl, h1, h3⟩ | ⟨rfl, rfl, h1, h3⟩ <;> rcases h2 with ⟨rfl, rfl, g1, g3⟩ | ⟨rfl, rfl, g1, g3⟩
  · exact ⟨rfl, rfl⟩
  · have := h3 g1; have := g3 h1; omega
  · have := h3 g1; have := g3 h1; omega
  · exact ⟨rfl, rfl⟩
end Go.Proofs.YtmjnfjbbdebddaaDoor.SlotW
