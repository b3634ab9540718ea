/- The walks of slot.Choose and slot.Next. -/
import Derived.Test.YtmjnfjbbdebddaaDoorSlotOpen
set_option linter.unusedVariables false
namespace Go.Proofs.YtmjnfjbbdebddaaDoor.SlotW
open Go.RowKit Fram SlotP CrcW Crc

/-- The k-th of two is chosen: it reads as l. -/
def Sel (a b : List UInt8) (k : Int) (l : List UInt8) : Prop := (k = 0 ∧ l = a ∧ Whole a ∧ (Whole b → seqS b ≤ seqS a)) ∨ (k = 1 ∧ l = b ∧ Whole b ∧ (Whole a → seqS a < seqS b))

def ChoosePost (w : World) (a b : List UInt8) (e : Ending) (w' : World) : Prop :=
  Below w.heap.size w w' ∧ ((¬ Whole a ∧ ¬ Whole b ∧ e = .returned (.tuple #[.int .i64 0, .int .i64 0, .slice none 0 0, .iface 27 (.int .i64 4)])) ∨
    (∃ (k : Int) (l : List UInt8) (B : Option Addr) (c : Nat), Sel a b k l ∧ e = .returned (.tuple #[.int .i64 k, .int .i64 (seqS l), .slice B (longS l) c, .nilIface]) ∧ Rd w' B (u8v (bodyS l)) ∧ longS l ≤ c))

attribute [local irreducible] seqS longS bodyS sumS

set_option maxRecDepth 100000 in
set_option maxHeartbeats 2000000 in
theorem choose_any (A C : Option Addr) (a b : List UInt8) (n m c d : Nat) (w : World) (hn : n = a.length) (hm : m = b.length) (hnc : n ≤ c) (hmd : m ≤ d) (hcm : c ≤ 9223372036854775807) (hdm : d ≤ 9223372036854775807) (ra : Rd w A (u8v a)) (rb : Rd w C (u8v b)) :
    Calls Tryd.prog 18 #[.slice A n c, .slice C m d] w (ChoosePost w a b) := by
  have HN := hide hn
  have HM := hide hm
  clear hn hm
  go_enter Tryd.func18, Tryd.ntmps18
  go_wp2_with fail
  refine (open_any A a n c _ HN.out hnc hcm ra).mono ?_
  rintro e w1 ⟨hb1, h1⟩
  rcases h1 with ⟨hWa, rfl⟩ | ⟨hWa, g, B, c1, rfl, hg, hBk, hrB, hc1⟩
  · go_wp2_with fail
    refine (open_any C b m d _ HM.out hmd hdm (rb.below hb1)).mono ?_
    rintro e w2 ⟨hb2, h2⟩
    have hb02 := hb1.trans (hb2.mono hb1.size)
    rcases h2 with ⟨hWb, rfl⟩ | ⟨hWb, g2, B2, c2, rfl, hg2, hBk2, hrB2, hc2⟩
    · have HP : Hid (¬ Whole a ∧ ¬ Whole b) := hide ⟨hWa, hWb⟩
      clear hWa hWb hb1 hb2
      go_wp2_with fail
      refine bodyPost_ret (v := .tuple #[.int .i64 0, .int .i64 0, .slice none 0 0, .iface 27 (.int .i64 4)]) (by simp [results, Tryd.results18, go_sem]) rfl ⟨hb02, .inl ⟨HP.out.1, HP.out.2, rfl⟩⟩
    · have HP : Hid (Sel a b 1 b) := hide (.inr ⟨rfl, rfl, hWb, fun h => absurd h hWa⟩)
      clear hWa hWb hb1 hb2
      have q0 := hBk2.at_ (i := 0) (u := .int .i64 (seqS b)) rfl
      have q1 := hBk2.at_ (i := 1) (u := .slice B2 (longS b) c2) rfl
      go_wp2_with fail
      go_region
      go_wp2_with fail
      go_region
      go_wp2_with fail
      refine bodyPost_ret (v := .tuple #[.int .i64 1, .int .i64 (seqS b), .slice B2 (longS b) c2, .nilIface]) (by simp [results, Tryd.results18, go_sem]) rfl ⟨hb02.drew.drew, .inr ⟨1, b, B2, c2, HP.out, rfl, hrB2.drew.drew, hc2⟩⟩
  · go_wp2_with fail
    refine (open_any C b m d _ HM.out hmd hdm (rb.below hb1)).mono ?_
    rintro e w2 ⟨hb2, h2⟩
    have hb02 := hb1.trans (hb2.mono hb1.size)
    have hBk' := hBk.below hb2 hBk.lt
    have hrB' := hrB.below hb2
    have q0 := hBk'.at_ (i := 0) (u := .int .i64 (seqS a)) rfl
    have q1 := hBk'.at_ (i := 1) (u := .slice B (longS a) c1) rfl
    rcases h2 with ⟨hWb, rfl⟩ | ⟨hWb, g2, B2, c2, rfl, hg2, hBk2, hrB2, hc2⟩
    · have HP : Hid (Sel a b 0 a) := hide (.inl ⟨rfl, rfl, hWa, fun h => absurd h hWb⟩)
      clear hWa hWb hb1 hb2 hBk hrB
      go_wp2_with fail
      go_region
      go_wp2_with fail
      go_region
      go_wp2_with fail
      refine bodyPost_ret (v := .tuple #[.int .i64 0, .int .i64 (seqS a), .slice B (longS a) c1, .nilIface]) (by simp [results, Tryd.results18, go_sem]) rfl ⟨hb02.drew.drew, .inr ⟨0, a, B, c1, HP.out, rfl, hrB'.drew.drew, hc1⟩⟩
    · have p0 := hBk2.at_ (i := 0) (u := .int .i64 (seqS b)) rfl
      have p1 := hBk2.at_ (i := 1) (u := .slice B2 (longS b) c2) rfl
      by_cases hlt : seqS a < seqS b
      · have HP : Hid (Sel a b 1 b) := hide (.inr ⟨rfl, rfl, hWb, fun _ => hlt⟩)
        have hgt : decide ((seqS b : Int) > (seqS a : Int)) = true := by simp; omega
        have hgt' : (seqS a : Int) < (seqS b : Int) := by omega
        clear hWa hWb hb1 hb2 hBk hrB hlt
        go_wp2_with fail
        go_region
        go_wp2_with fail
        go_region
        go_wp2_with fail
        refine bodyPost_ret (v := .tuple #[.int .i64 1, .int .i64 (seqS b), .slice B2 (longS b) c2, .nilIface]) (by simp [results, Tryd.results18, go_sem]) rfl ⟨hb02.drew.drew, .inr ⟨1, b, B2, c2, HP.out, rfl, hrB2.drew.drew, hc2⟩⟩
      · have HP : Hid (Sel a b 0 a) := hide (.inl ⟨rfl, rfl, hWa, fun _ => by omega⟩)
        have hgt' : ¬ (seqS a : Int) < (seqS b : Int) := by omega
        clear hWa hWb hb1 hb2 hBk hrB hlt
        go_wp2_with fail
        go_region
        go_wp2_with fail
        go_region
        go_wp2_with fail
        refine bodyPost_ret (v := .tuple #[.int .i64 0, .int .i64 (seqS a), .slice B (longS a) c1, .nilIface]) (by simp [results, Tryd.results18, go_sem]) rfl ⟨hb02.drew.drew, .inr ⟨0, a, B, c1, HP.out, rfl, hrB'.drew.drew, hc1⟩⟩
end Go.Proofs.YtmjnfjbbdebddaaDoor.SlotW
