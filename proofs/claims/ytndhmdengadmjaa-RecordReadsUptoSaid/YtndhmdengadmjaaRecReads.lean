/- The walk of granarylaw1.RecordReads. -/
import Derived.Test.YtndhmdengadmjaaRefRead
import Derived.Test.YtndhmdengadmjaaRecRead
set_option linter.unusedVariables false
namespace Go.Proofs.Ytndhmdengadmjaa.RecW
open Go.RowKit Rec BufW I64

theorem rd_data {w : World} {A : Option Addr} {l : List UInt8} {c : Nat} (h : Rd w A (u8v l)) (hc : l.length ≤ c) (hl : l.length ≤ 140737488351232) : BufW.Data w w.heap.size l A c := by
  refine ⟨hc, hl, ?_, h⟩
  cases l with
  | nil => exact .inl rfl
  | cons x r =>
    refine .inr fun ad e => .inl ?_
    obtain ⟨b, off, hA, hcl⟩ := h.at_ (i := 0) (by rw [u8v_length, List.length_cons]; omega)
    rw [hA] at e
    injection e with e
    subst e
    exact World.block_lt_of_cell? w _ hcl
theorem decB_small {l : List UInt8} {es : List Ent} {r : List UInt8} (h : decB l = some (es, r)) : es.length ≤ 64 := (decB_iff.1 h).2.1
theorem readF_cut : ∀ (f : Nat) (l : List UInt8), (∀ es ∈ (Rec.readF f l).1, okB es) ∧ l = flat (Rec.readF f l).1 ++ (Rec.readF f l).2
  | 0, l => by
    rw [Rec.readF]
    exact ⟨(fun es he => by cases he), rfl⟩
  | f + 1, l => by
    rw [Rec.readF]
    cases h : decB l with
    | none => exact ⟨(fun es he => by cases he), rfl⟩
    | some p =>
      obtain ⟨es, r⟩ := p
      have ih := readF_cut f r
      have hd := decB_iff.1 h
      simp only
      refine ⟨fun x hx => ?_, ?_⟩
      · rcases List.mem_cons.1 hx with rfl | hx
        · exact hd.2
        · exact ih.1 x hx
      · rw [flat, List.append_assoc, ← ih.2]
        exact hd.1
theorem read_small (l : List UInt8) : ∀ es ∈ (Rec.read l).1, es.length ≤ 64 := fun es he => ((readF_cut l.length l).1 es he).1
theorem read_len (l : List UInt8) : (Rec.read l).1.length * 5 ≤ l.length := by
  have h1 := flat_len (Rec.read l).1
  have h2 := congrArg List.length (readF_cut l.length l).2
  rw [List.length_append] at h2
  unfold Rec.read at h1 ⊢
  omega
set_option maxRecDepth 20000 in
set_option maxHeartbeats 4000000 in
theorem reads_law (hbat : BatchSays) (A : Option Addr) (l : List UInt8) (n c : Nat) (w : World) (hn : n = l.length) (h1 : n ≤ c) (h2 : c ≤ 1048576) (h : Rd w A (u8v l)) :
    Calls Try.prog 4 #[.slice A n c] w fun e w' => e = .returned (.bool true) ∧ Below w.heap.size w w' := by
  have HRD := hide (read_any hbat A c l w (rd_data h (by omega) (by omega)) (by omega))
  have H := hide h
  have HN := hide hn
  have HLEN : Hid ((Rec.read l).1.length ≤ 1000000000) := hide (by have := read_len l; omega)
  rw [← hn] at HRD
  obtain ⟨k, hk⟩ : ∃ k, k = n - (Rec.read l).2.length := ⟨_, rfl⟩
  have HK := hide hk
  rw [← hk] at HRD
  clear hn h hk hbat
  go_enter Try.func4, Try.ntmps4
  go_wp2_with fail
  refine HRD.out.mono ?_
  rintro e w1 ⟨v1, rfl, hb1, hw1⟩
  have HB1 := hide hb1
  have HW1 := hide hw1
  have HRR := hide (recordRead_any A c n l w1 HN.out (H.out.below hw1) h1 (by omega) (by omega))
  rw [← HN.out, ← HK.out] at HRR
  clear hb1 hw1 HRD
  have hkk : ((k : Int) == (k : Int)) = true := by simp
  go_wp2_with fail
  refine HRR.out.mono ?_
  rintro e w2 ⟨v2, rfl, hb2, hw2⟩
  have HS := hide (batches_same v1 v2 ((Rec.read l).1.map intE) w2 (HB1.out.rd.below hw2) hb2.rd (by rw [List.length_map]; exact HLEN.out) (fun es he => by
    obtain ⟨x, hx, rfl⟩ := List.mem_map.1 he
    rw [intE, List.length_map]
    have := read_small l x hx
    omega))
  have HW2 := hide (HW1.out.trans (hw2.mono HW1.out.size))
  clear hb2 hw2 HRR HB1
  go_wp2_with fail
  refine HS.out.mono ?_
  rintro e w3 ⟨rfl, d3, rfl⟩
  go_wp2_with fail
  go_ret
  exact ⟨rfl, below_drewN HW2.out d3⟩
end Go.Proofs.Ytndhmdengadmjaa.RecW
