/- The walk of granarylaw1.codeFact: it is true. -/
import Derived.Test.YtakgbejeaheihaaDoorCrc
import Derived.Test.YtakgbejeaheihaaDoorProtect
import Derived.Test.YtakgbejeaheihaaDoorUtil
import Derived.Lib.SlBytesConst
namespace Go.Proofs.YtakgbejeaheihaaDoor.FactW
open Go.RowKit Crc ProtectW CrcW

def l9 : List UInt8 := [49, 50, 51, 52, 53, 54, 55, 56, 57]
def l8 : List UInt8 := [1, 0, 0, 0, 0, 0, 0, 0]
theorem crc_l9 : ((crc l9).toNat : Int) = 3421780262 := by decide +kernel
theorem prot_l8 : u8v (prot l8 (8 / 8)) = [.int .u8 131] := by
  have h : prot l8 (8 / 8) = [131] := by decide +kernel
  rw [h]; rfl

attribute [local irreducible] crc prot

set_option maxRecDepth 100000 in
theorem fact_any (w : World) : Calls Tryd.prog 14 #[] w fun e w' => e = .returned (.bool true) ∧ Below w.heap.size w w' := by
  have kc := fun (w : World) (C : Array Value) (n c : Nat) => Lib.run_convert_bytes_const (P := Tryd.prog) w 22 5 C n c Tryd.underlying22 Tryd.underlying5
  have hcrc := crc_l9
  generalize hL : crc l9 = L at hcrc
  have HL := hide hL
  clear hL
  go_enter Tryd.func14, Tryd.ntmps14
  go_wp2_with (first
    | (go_at_call 5; refine (crc_any (some ⟨w.heap.size, 0, none⟩) l9 9 9 _ rfl (by decide) (by exact Rd.new _ _ _ _ _ _ rfl rfl)).mono ?_; rintro e w' ⟨rfl, rfl⟩; rw [HL.out])
    | (go_at_call 8
       refine (protect_ok (some ⟨w.heap.size + 1, 0, none⟩) l8 8 8 _ rfl rfl (by decide) (by decide) (by exact Rd.new _ _ _ _ _ _ (by simp) rfl)).mono ?_
       rintro e w2 ⟨v, rfl, hown, hb⟩
       rw [prot_l8] at hown
       have hown1 : w2.ownsRow _ 5 1 v 1 [.int .u8 131] := hown
       obtain ⟨A1, c1, rfl, -, -, -, -, -⟩ := own_form hown1
       obtain ⟨g1, rfl, -, -⟩ := own_at hown1 (by omega)
       have hcell : w2.cell? ⟨g1, 0, none⟩ = some (.int .u8 131) := hown1.cellAt 0 (by omega)
       clear hown hown1))
  go_ret
  refine ⟨rfl, ?_⟩
  refine (((Below.refl _ w).alloc (Nat.le_refl _) _).alloc (by simp) _).trans (hb.mono (by simp; omega))
end Go.Proofs.YtakgbejeaheihaaDoor.FactW
