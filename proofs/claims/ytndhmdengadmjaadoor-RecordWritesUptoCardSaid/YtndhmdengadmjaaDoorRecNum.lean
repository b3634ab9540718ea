/- The walk of record.number: a number written. -/
import Derived.Test.YtndhmdengadmjaaDoorRecPlain
import Derived.Test.YtndhmdengadmjaaDoorBytes
import Derived.Test.YtndhmdengadmjaaDoorFr
set_option linter.unusedVariables false
namespace Go.Proofs.YtndhmdengadmjaaDoor.RecW
open Go.RowKit Rec

/-- The blocks of bytes. -/
def u8K : Obj → Prop
  | .cells _ t _ => t = 5
  | _ => False
/-- append(x, y...) of two slices of bytes, x the call's own, and what it leaves. -/
theorem wpList_appF (w : World) {ops : Array Oper} {rest : List Oper} {o : Oper} {a : Act} {Q : Exit → Act → World → Prop} (hgd : o.guard = none) (s x : Operand)
    (ho : o.op = .call { callee := .builtin .append, args := #[s, x], argTypes := #[23, 23] })
    (base : Nat) (v : Value) (n : Nat) (xs : List UInt8) (hs : a.eval s = v) (hown : w.ownsRow base 5 1 v n (u8v xs))
    (A : Option Addr) (m c : Nat) (ys : List UInt8) (hx : a.eval x = .slice A m c) (hm : m = ys.length) (hr : Rd w A (u8v ys)) (hb : n + m ≤ 140737488355328) (hbase : base ≤ w.heap.size)
    (h : ∀ (A' : Option Addr) (c' : Nat) (w' : World), n + m ≤ c' → w'.ownsRow base 5 1 (.slice A' (n + m) c') (n + m) (u8v (xs ++ ys)) → Fr base u8K w w' → wpList Tryd.prog ops Q rest (a.put o.dst (.slice A' (n + m) c')) w') : wpList Tryd.prog ops Q (o :: rest) a w := by
  obtain ⟨i0, hi0, hz0, hz1, hz2⟩ := info_parts u8_info
  refine wpList_append_rd w hgd s x 23 ho base 5 i0 _ 1 Tryd.underlying23 hi0 hz0 hz1 hz2 rfl v n (u8v xs) hs hown A m c (u8v ys) hx (by rw [u8v_length, hm]) hr (u8v_one ys) (by simp only [maxLen]; omega) (by omega) hbase ?_
  intro v' w' hown' hg
  have f5 : Fr base u8K w w' := Fr.row hg hbase fun k hk => ⟨(World.ownsRow.lt hown k hk).1, fun o ho => by
    rcases hown.2 with ⟨rfl, -⟩ | ⟨g, cap, cur, rfl, -, hh, -⟩
    · cases hk
    · have : g = k := by simpa [Value.ownBlock] using hk
      subst this
      rw [hh] at ho
      injection ho with ho
      subst ho
      rfl⟩
  rw [← u8v_append] at hown'
  obtain ⟨A', c', rfl, hc', -, -, -, -⟩ := own_form hown'
  exact h A' c' w' hc' hown' f5

theorem or128' : ∀ a : Fin 256, bits .or .u8 (a.val : Int) 128 = ((128 + a.val % 128 : Nat) : Int) := by decide +kernel
theorem or128 (y : Nat) : bits .or .u8 ((y : Int) % 256) 128 = (((UInt8.ofNat (128 + y % 128)).toNat : Nat) : Int) := by
  have h := or128' ⟨y % 256, by omega⟩
  simp only at h
  rw [ofNat_toNat (by omega)]
  have e : ((y % 256 : Nat) : Int) = (y : Int) % 256 := by omega
  rw [e] at h
  rw [h]
  omega

set_option maxHeartbeats 1000000 in
theorem number_any (base : Nat) (v : Value) (n : Nat) (xs : List UInt8) (x : Nat) (w : World) (h : w.ownsRow base 5 1 v n (u8v xs)) (hx : x < 128 ^ 9) (hn : n ≤ 1000000000) (hb : base ≤ w.heap.size) :
    Calls Tryd.prog 19 #[v, .int .i64 x] w fun e w' => ∃ A c, e = .returned (.slice A (n + (num x).length) c) ∧ w'.ownsRow base 5 1 (.slice A (n + (num x).length) c) (n + (num x).length) (u8v (xs ++ num x)) ∧ Fr base u8K w w' := by
  have H := hide h
  have HX := hide hx
  have HB := hide hb
  clear h hx hb
  go_enter Tryd.func19, Tryd.ntmps19
  go_wp2_with fail
  go_loopw [0, 1] (fun b y wr => ∃ (m y' : Nat) (ys : List UInt8), y = .int .i64 y' ∧ m ≤ 9 ∧ Hid (wr.ownsRow base 5 1 b (n + m) (u8v (xs ++ ys)) ∧ ys.length = m ∧ y' < 128 ^ (9 - m) ∧ ys ++ num y' = num x ∧ Fr base u8K w wr ∧ base ≤ wr.heap.size)) (fun _ y _ => (intOf y).toNat)
  case atStart => exact ⟨0, x, [], rfl, by omega, hide ⟨by simpa using H.out, rfl, HX.out, rfl, Fr.refl _ _ _, HB.out⟩⟩
  case round =>
    obtain ⟨m, y, ys, rfl, hm, HS⟩ := hrel
    by_cases hge : 128 ≤ y
    · have hd : decide ((y : Int) ≥ 128) = true := by simp; omega
      have hyi : (128 : Int) ≤ y := by omega
      have hq := or128 y
      have hys : Hid (xs ++ (ys ++ [UInt8.ofNat (128 + y % 128)]) = (xs ++ ys) ++ [UInt8.ofNat (128 + y % 128)]) := hide (by simp)
      have HOWN := hide (HS.out.1.alloc (.cells #[.int .u8 ((UInt8.ofNat (128 + y % 128)).toNat : Nat)] 5))
      have HRD := hide (Rd.one wr 5 (.int .u8 ((UInt8.ofNat (128 + y % 128)).toNat : Nat)))
      go_wp2_with (first
        | (refine wpList_appF _ rfl (.tmp 7) (.tmp 11) rfl base u0 (n + m) (xs ++ ys) rfl HOWN.out _ 1 1 [UInt8.ofNat (128 + y % 128)] rfl rfl HRD.out (by omega) (by have := HS.out.2.2.2.2.2; simp; omega) ?_
           intro A' c' w' hc' hown' hb')
        | fail)
      have HL : Hid (n + m + 1 = n + (m + 1)) := hide (by omega)
      have HN : Hid (wr.heap.size ≤ w'.heap.size) := hide (by have := hb'.size; simp at this; omega)
      rw [HL.out] at hown'
      have hm8 : m < 9 := by
        rcases Nat.lt_or_ge m 9 with h | h
        · exact h
        · have h1 := HS.out.2.2.1
          have : 9 - m = 0 := by omega
          rw [this] at h1
          simp at h1
          omega
      have HO' := hide hown'
      have HB' := hide hb'
      clear hown' hb'
      go_wp2_with fail
      go_roundw
      case rel =>
        refine ⟨m + 1, y / 128, ys ++ [UInt8.ofNat (128 + y % 128)], by go_num, by omega, hide ⟨by rw [hys.out]; exact HO'.out, by rw [List.length_append, HS.out.2.1]; rfl, ?_, ?_, ?_, ?_⟩⟩
        · have h1 := HS.out.2.2.1
          have e : 9 - m = (9 - (m + 1)) + 1 := by omega
          rw [e] at h1
          exact div_lt h1
        · rw [← HS.out.2.2.2.1, num_big (x := y) (by omega), List.append_assoc]
          rfl
        · exact (HS.out.2.2.2.2.1.alloc HS.out.2.2.2.2.2 _).trans HB'.out
        · have := HN.out; have := HS.out.2.2.2.2.2; omega
      case measure => simp [intOf]; omega
    · have hd : decide ((y : Int) ≥ 128) = false := by simp; omega
      have hys : Hid (xs ++ num x = (xs ++ ys) ++ [UInt8.ofNat y]) := hide (by rw [← HS.out.2.2.2.1, num_small (x := y) (by omega)]; simp)
      have HLN : Hid ((num x).length = m + 1) := hide (by rw [← HS.out.2.2.2.1, num_small (x := y) (by omega), List.length_append, HS.out.2.1]; rfl)
      have HOWN := hide (HS.out.1.alloc (.cells #[.int .u8 (y : Int)] 5))
      have HRD : Hid (Rd (wr.alloc (.cells #[.int .u8 (y : Int)] 5)) (some ⟨wr.heap.size, 0, none⟩) (u8v [UInt8.ofNat y])) := hide (by
        have e : u8v [UInt8.ofNat y] = [.int .u8 (y : Int)] := by simp only [u8v, List.map_cons, List.map_nil, ofNat_toNat (show y < 256 by omega)]
        rw [e]
        exact Rd.one wr _ _)
      go_wp2_with (first
        | (refine wpList_appF _ rfl (.tmp 15) (.tmp 18) rfl base u0 (n + m) (xs ++ ys) rfl HOWN.out _ 1 1 [UInt8.ofNat y] rfl rfl HRD.out (by omega) (by have := HS.out.2.2.2.2.2; simp; omega) ?_
           intro A' c' w' hc' hown' hb')
        | fail)
      go_ret
      rw [HLN.out, hys.out]
      exact ⟨A', c', rfl, hown', (HS.out.2.2.2.2.1.alloc HS.out.2.2.2.2.2 _).trans hb'⟩
end Go.Proofs.YtndhmdengadmjaaDoor.RecW
