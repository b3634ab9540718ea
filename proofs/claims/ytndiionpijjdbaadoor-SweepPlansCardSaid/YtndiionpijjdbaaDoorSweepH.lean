/- The walk of sweep.Choose. -/
import Derived.Test.YtndiionpijjdbaaDoorSweepF
set_option linter.unusedVariables false
namespace Go.Proofs.YtndiionpijjdbaaDoor.SwW
open Go.RowKit I64 Stab

/-- What Choose says: the first of the sorted ones. -/
def ChoP (w : World) (S : Nat → Blk) (pages : Int) (n : Nat) (e : Ending) (w' : World) : Prop :=
  Below w.heap.size w w' ∧ ((flt S n pages false ≠ 0 ∧ e = .returned (.tuple #[.int .i64 0, errR (flt S n pages false)])) ∨
    (flt S n pages false = 0 ∧ ∃ Z : List Int, Z.Perm (elig S pages n) ∧ Srt (ckey S) Z ∧ ((Z = [] ∧ e = .returned (.tuple #[.int .i64 0, errR 4])) ∨ (∃ z Z', Z = z :: Z' ∧ e = .returned (.tuple #[.int .i64 z, .nilIface])))))
attribute [local irreducible] flt okB elig Srt ckey
set_option maxRecDepth 20000 in
set_option maxHeartbeats 2000000 in
theorem choose_any (A : Option Addr) (n c : Nat) (S : Nat → Blk) (T : Nat) (pages : Int) (w : World) (hr : RdB w A n S T) (hT : T ≤ w.heap.size) (hn : n ≤ 9223372036854775807) :
    Calls Tryd.prog 11 #[.slice A n c, .int .i64 pages] w (ChoP w S pages n) := by
  have HFA := hide (fault_any A n c S T pages false w hr hT hn)
  have HR := hide hr
  have HT := hide hT
  clear hr hT
  go_enter Tryd.func11, Tryd.ntmps11
  go_wp2_with fail
  refine HFA.out.mono ?_
  rintro e w1 ⟨rfl, hb1⟩
  by_cases hf : flt S n pages false = 0
  · have HF := hide hf
    have HZ := hide (flt_zero hf)
    have HOR := hide (order_any A n c S T pages w1 (HR.out.below hb1 HT.out) (Nat.le_trans HT.out hb1.size) HZ.out.1)
    have HB1 := hide hb1
    rw [hf, errV_zero]
    clear hf hb1 HFA
    go_wp2_with fail
    refine HOR.out.mono ?_
    rintro e w2 ⟨Z, D, c', rfl, hrd, hc1, hc2, hz1, hz2, hb2⟩
    have HB2 := hide (HB1.out.trans (hb2.mono HB1.out.size))
    have HZ1 := hide hz1
    have HZ2 := hide hz2
    rcases Z with _ | ⟨z, Z'⟩
    · clear hrd hc1 hc2 hz1 hz2 hb2
      simp only [List.length_nil]
      go_wp2_with fail
      go_ret2
      exact ⟨HB2.out, .inr ⟨HF.out, [], HZ1.out, HZ2.out, .inl ⟨rfl, rfl⟩⟩⟩
    · obtain ⟨bz, oz, rfl, hcz⟩ := hrd.at_ (i := 0) (by simp [i64v])
      have cz : w2.cell? ⟨bz, oz, none⟩ = some (.int .i64 z) := by simpa [i64v] using hcz
      obtain ⟨L, hL⟩ : ∃ L, L = (z :: Z').length := ⟨_, rfl⟩
      have hLp : 0 < L := by rw [hL]; simp
      rw [← hL]
      have d1 : ((L : Int) == 0) = false := by simp; omega
      have hLi : (0 : Int) < (L : Int) := by omega
      clear hrd hc1 hc2 hz1 hz2 hb2 hcz hL
      go_wp2_with fail
      go_ret2
      exact ⟨HB2.out, .inr ⟨HF.out, z :: Z', HZ1.out, HZ2.out, .inr ⟨z, Z', rfl, rfl⟩⟩⟩
  · have HF := hide hf
    have HB1 := hide hb1
    rw [errV_ne hf]
    clear hf hb1 HFA
    unfold errR
    go_wp2_with fail
    go_ret2
    exact ⟨HB1.out, .inl ⟨HF.out, rfl⟩⟩
end Go.Proofs.YtndiionpijjdbaaDoor.SwW
