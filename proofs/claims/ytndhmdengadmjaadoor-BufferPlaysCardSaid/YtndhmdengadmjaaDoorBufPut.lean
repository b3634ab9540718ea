/- The walks of Buffer.Put, Buffer.Drop. -/
import Derived.Test.YtndhmdengadmjaaDoorBufAdd
set_option linter.unusedVariables false
namespace Go.Proofs.YtndhmdengadmjaaDoor.BufW
open Go.RowKit I64 IdMap Ring BufP

theorem AddPost.from {w0 w w' : World} {B g : Nat} {most : Int} {L : List It} {x : It} {e : Ending} (h : AddPost w B g most L x e w') (hf : Fr B ringT w0 w) : AddPost w0 B g most L x e w' := ⟨hf.trans h.1, h.2⟩

theorem AddPost.ret {w w' : World} {B g : Nat} {most : Int} {L : List It} {x : It} {e : Ending} (h : AddPost w B g most L x e w') : ∃ v, e = .returned v := by
  obtain ⟨-, ⟨-, h, -⟩ | ⟨k, -, -, -, -, h, -⟩⟩ := h
  · exact ⟨_, h⟩
  · exact ⟨_, h⟩

set_option maxHeartbeats 1000000 in
theorem put_any (B g : Nat) (most : Int) (L : List It) (y : Int) (ld : List UInt8) (A : Option Addr) (n c : Nat) (w : World) (h : BufAt w B g most L) (hn : n = ld.length) (hm : n ≤ 140737488351232) (hr : Rd w A (u8v ld))
    (hy1 : -9223372036854775808 ≤ y) (hy2 : y ≤ 9223372036854775807) :
    Calls Tryd.prog 16 #[ptr g, .int .i64 y, .slice A n c] w (AddPost w B g most L (y, false, ld)) := by
  have HC := hide (clone_any A ld n c w hn hm hr)
  have HB := hide h
  have HY := hide (And.intro hy1 hy2)
  have HN := hide hn
  clear hn hm hr h hy1 hy2
  unfold ptr
  go_enter Tryd.func16, Tryd.ntmps16
  go_wp2_with (first
    | (go_at_call 28
       refine HC.out.mono ?_
       rintro e w1 ⟨D, c1, rfl, hD, hb, -⟩
       have HD := hide (hD B)
       have HBW := hide (HB.out.below hb)
       have HF := hide (Fr.of_below (T := ringT) hb HB.out.low)
       clear hD hb)
    | (go_at_call 26
       rw [HN.out]
       refine (add_any B g most L (y, false, ld) D c1 w1 HBW.out HD.out HY.out.1 HY.out.2).mono ?_
       intro e w2 hp
       obtain ⟨v2, rfl⟩ := hp.ret
       have HP := hide (hp.from HF.out)
       clear hp)
    | fail)
  go_ret
  exact HP.out

set_option maxHeartbeats 1000000 in
theorem drop_any (B g : Nat) (most : Int) (L : List It) (y : Int) (w : World) (h : BufAt w B g most L) (hy1 : -9223372036854775808 ≤ y) (hy2 : y ≤ 9223372036854775807) :
    Calls Tryd.prog 14 #[ptr g, .int .i64 y] w (AddPost w B g most L (y, true, [])) := by
  have HB := hide h
  have HY := hide (And.intro hy1 hy2)
  clear h hy1 hy2
  unfold ptr
  go_enter Tryd.func14, Tryd.ntmps14
  go_wp2_with (first
    | (go_at_call 26
       refine (add_any B g most L (y, true, []) none 0 w HB.out ⟨Nat.le_refl _, by simp, .inl rfl, .inl rfl⟩ HY.out.1 HY.out.2).mono ?_
       intro e w2 hp
       obtain ⟨v2, rfl⟩ := hp.ret
       have HP := hide hp
       clear hp)
    | fail)
  go_ret
  exact HP.out
end Go.Proofs.YtndhmdengadmjaaDoor.BufW
