/- The walk of granaryref1.Bytes; append of bytes (as XSame, without Pick). -/
import Derived.Test.YtbldjiofchaigaaDoorBase
import Derived.Test.YtbldjiofchaigaaDoorChecked
import Derived.WalkLawsBesides
import Derived.BigQuiet
import Derived.Deep.QuietTactic
set_option linter.unusedVariables false
namespace Go.Proofs.YtbldjiofchaigaaDoor
open Go.RowKit

theorem same_any (A C : Option Addr) (l m : List UInt8) (n k cap capc : Nat) (w : World) (hn : n = l.length) (hk : k = m.length) (hl : n ≤ 9223372036854775807) (hr : Rd w A (u8v l)) (hs : Rd w C (u8v m)) (r : Bool) (hres : r = decide (l = m)) :
    Calls Tryd.prog 15 #[.slice A n cap, .slice C k capc] w fun e w' => e = .returned (.bool r) ∧ ∃ d, w' = w.drewN d := by
  have HR := hide hres
  clear hres
  by_cases hne : n = k
  · subst hne
    have HN := hide hn
    have HK := hide hk
    clear hn hk
    have ht : ((n : Int) != (n : Int)) = false := by simp
    go_enter Tryd.func15, Tryd.ntmps15
    go_wp2
    go_loopw [5] (fun i wr => ∃ j d : Nat, j ≤ n ∧ i = .int .i64 j ∧ wr = w.drewN d ∧ Hid (l.take j = m.take j)) (fun i _ => n - (intOf i).toNat)
    case atStart => exact ⟨0, 0, by omega, rfl, rfl, hide rfl⟩
    case round =>
      obtain ⟨j, d, hj, rfl, rfl, HT⟩ := hrel
      by_cases hlt : j < n
      · obtain ⟨b, off, rfl, hc1⟩ := hr.at_ (i := j) (by rw [u8v_length, ← HN.out]; exact hlt)
        obtain ⟨b2, off2, rfl, hc2⟩ := hs.at_ (i := j) (by rw [u8v_length, ← HK.out]; exact hlt)
        have hjl : j < l.length := by rw [← HN.out]; exact hlt
        have hjm : j < m.length := by rw [← HK.out]; exact hlt
        simp only [u8v, List.getElem_map] at hc1 hc2
        have hcc1 : (w.drewN d).cell? ⟨b, off + j, none⟩ = some (.int .u8 (l[j].toNat : Int)) := hc1
        have hcc2 : (w.drewN d).cell? ⟨b2, off2 + j, none⟩ = some (.int .u8 (m[j].toNat : Int)) := hc2
        have hji : (j : Int) < (n : Int) := by omega
        have hd1 : decide ((j : Int) < (n : Int)) = true := by simp; omega
        have e1 := List.take_succ_eq_append_getElem hjl
        have e2 := List.take_succ_eq_append_getElem hjm
        by_cases heq : l[j] = m[j]
        · have HN2 : Hid (l.take (j + 1) = m.take (j + 1)) := by rw [e1, e2, HT.out, heq]; exact hide rfl
          have hb : ((l[j].toNat : Int) != (m[j].toNat : Int)) = false := by rw [heq]; simp
          clear e1 e2 heq
          generalize l[j].toNat = x at *
          generalize m[j].toNat = y at *
          go_wp2
          go_quiet (fail)
          go_wp2
          go_roundw
          case rel => exact ⟨j + 1, _, by omega, by go_num, rfl, HN2⟩
          case measure => simp [intOf]; omega
        · have HD : Hid (decide (l = m) = false) := by
            refine hide (decide_eq_false ?_)
            rintro rfl
            exact heq rfl
          have hb : ((l[j].toNat : Int) != (m[j].toNat : Int)) = true := by
            simp only [bne_iff_ne, ne_eq]
            intro e
            exact heq (UInt8.toNat_inj.1 (by omega))
          clear e1 e2 heq
          generalize l[j].toNat = x at *
          generalize m[j].toNat = y at *
          go_wp2
          go_quiet (fail)
          go_wp2
          go_ret
          exact ⟨by rw [HR.out, HD.out]; rfl, _, World.drewN_drewN _ _ _⟩
      · have HD : Hid (decide (l = m) = true) := by
          refine hide (decide_eq_true ?_)
          have := HT.out
          rw [List.take_of_length_le (by rw [← HN.out]; omega), List.take_of_length_le (by rw [← HK.out]; omega)] at this
          exact this
        go_wp2
        go_ret
        exact ⟨by rw [HR.out, HD.out]; rfl, _, rfl⟩
  · have ht : ((n : Int) != (k : Int)) = true := by simp; omega
    have HD : Hid (decide (l = m) = false) := by
      refine hide (decide_eq_false ?_)
      rintro rfl
      exact hne (hn.trans hk.symm)
    clear hne hn hk
    go_enter Tryd.func15, Tryd.ntmps15
    go_wp2
    go_ret
    exact ⟨by rw [HR.out, HD.out]; rfl, 0, rfl⟩


theorem u8_info : (Tryd.prog.info? 5).map (fun i => (i.zero, i.size, i.bytes)) = some (some (.int .u8 0), 1, 1) := by kernel_rfl

/-- append(x, y...) of two slices of bytes, x the call's own: what the walk goes on with. -/
theorem wpList_app (w : World) {ops : Array Oper} {rest : List Oper} {o : Oper} {a : Act} {Q : Exit → Act → World → Prop} (hgd : o.guard = none) (s x : Operand)
    (ho : o.op = .call { callee := .builtin .append, args := #[s, x], argTypes := #[33, 33] })
    (base : Nat) (v : Value) (n : Nat) (xs : List UInt8) (hs : a.eval s = v) (hown : w.ownsRow base 5 1 v n (u8v xs))
    (A : Option Addr) (m c : Nat) (ys : List UInt8) (hx : a.eval x = .slice A m c) (hm : m = ys.length) (hr : Rd w A (u8v ys)) (hb : n + m ≤ 140737488355328) (hbase : base ≤ w.heap.size)
    (h : ∀ (A' : Option Addr) (c' : Nat) (w' : World), n + m ≤ c' → w'.ownsRow base 5 1 (.slice A' (n + m) c') (n + m) (u8v (xs ++ ys)) → Below base w w' → wpList Tryd.prog ops Q rest (a.put o.dst (.slice A' (n + m) c')) w') : wpList Tryd.prog ops Q (o :: rest) a w := by
  obtain ⟨i0, hi0, hz0, hz1, hz2⟩ := info_parts u8_info
  refine wpList_append_rd w hgd s x 33 ho base 5 i0 _ 1 Tryd.underlying33 hi0 hz0 hz1 hz2 rfl v n (u8v xs) hs hown A m c (u8v ys) hx (by rw [u8v_length, hm]) hr (u8v_one ys) (by simp only [maxLen]; omega) (by omega) hbase ?_
  intro v' w' hown' hg
  have hb' := below_own (Below.refl base w) hown hg hbase (Nat.le_refl _)
  rw [← u8v_append] at hown'
  obtain ⟨A', c', rfl, hc', -, -, -, -⟩ := own_form hown'
  exact h A' c' w' hc' hown' hb'

/-- '[]byte{}'. -/
theorem own_empty (w : World) : (w.alloc (.cells #[] 5)).ownsRow w.heap.size 5 1 (.slice (some ⟨w.heap.size, 0, none⟩) 0 0) 0 (u8v []) :=
  own_new w _ _ #[] 0 (Nat.le_refl _) (by simp) rfl

theorem own_rd {w : World} {base : Nat} {e : TypeId} {A : Option Addr} {n c : Nat} {xs : List Value} (h : w.ownsRow base e 1 (.slice A n c) n xs) : Rd w A xs := Rd.of_own h

end Go.Proofs.YtbldjiofchaigaaDoor
