/- The walk of granarylaw1.RecordBack, over what batch and recordFact say. -/
import Derived.Test.YtndhmdengadmjaaRecJoins
import Derived.Test.YtndhmdengadmjaaPick
set_option linter.unusedVariables false
namespace Go.Proofs.Ytndhmdengadmjaa.RecW
open Go.RowKit Rec BufW I64

theorem RdB.take {w : World} {A : Option Addr} {n c : Nat} {ls : List (List E3)} (h : RdB w (.slice A n c) ls) (j : Nat) (hj : j ≤ ls.length) : RdB w (.slice A j c) (ls.take j) := by
  obtain ⟨A', c', hv, h⟩ := h
  obtain ⟨rfl, rfl⟩ : A = A' ∧ c = c' := by injection hv with h1 h2 h3; exact ⟨h1, h3⟩
  refine ⟨A, c, by rw [List.length_take, Nat.min_eq_left hj], fun i es hi => ?_⟩
  rw [List.getElem?_take] at hi
  split at hi
  · exact h i es hi
  · cases hi
theorem Small.take {ls : List (List E3)} (h : Small ls) (j : Nat) : Small (ls.take j) :=
  ⟨by have := h.1; rw [List.length_take]; omega, fun es he => h.2.1 es (List.mem_of_mem_take he), fun i => by rw [List.take_take]; exact h.2.2 _⟩
theorem natL_back {ls : List (List E3)} (h : ∀ es ∈ ls, faultOf es = 0) : (natL ls).map intE = ls := by
  rw [natL, List.map_map]
  conv => rhs; rw [← List.map_id ls]
  exact List.map_congr_left fun es he => intE_nat (fault_ok (h es he)).2
theorem natL_ok {ls : List (List E3)} (h : ∀ es ∈ ls, faultOf es = 0) : ∀ es ∈ natL ls, okB es := fun es he => by
  obtain ⟨q, hq, rfl⟩ := List.mem_map.1 he
  exact okB_nat (h q hq)
theorem natL_take (ls : List (List E3)) (j : Nat) : natL (ls.take j) = (natL ls).take j := by rw [natL, natL, List.map_take]
theorem own_data {w : World} {base : Nat} {A : Option Addr} {n c : Nat} {l : List UInt8} (h : w.ownsRow base 5 1 (.slice A n c) n (u8v l)) (hn : n = l.length) (hl : l.length ≤ 140737488351232) (k : Nat) (hk : k ≤ n) : BufW.Data w w.heap.size (l.take k) A c := by
  obtain ⟨A', c', hv, hnc, -, hr, -, -⟩ := own_form h
  obtain ⟨rfl, rfl⟩ : A = A' ∧ c = c' := by injection hv with h1 h2 h3; exact ⟨h1, h3⟩
  have e : u8v (l.take k) = (u8v l).take k := by simp [u8v, List.map_take]
  exact ⟨by rw [List.length_take]; omega, by rw [List.length_take]; omega, .inr (fun ad e => by subst e; exact .inl (h.lt _ rfl).2), by rw [e]; exact hr.take k⟩

/-- What the read of the beginning says. -/
def Part (ls : List (List E3)) (k j : Nat) (rest : List UInt8) : Prop :=
  j ≤ ls.length ∧ Rec.read ((flat (natL ls)).take k) = (natL (ls.take j), rest) ∧ (flat (natL (ls.take j))).length + rest.length = k ∧ (j = ls.length → k = (flat (natL ls)).length) ∧ (j < ls.length → k < (flat (natL (ls.take (j + 1)))).length)
theorem part_any {ls : List (List E3)} (h : ∀ es ∈ ls, faultOf es = 0) (k : Nat) (hk : k ≤ (flat (natL ls)).length) : ∃ j rest, Part ls k j rest := by
  obtain ⟨j, rest, h1, h2, h3, h4, h5⟩ := read_part (natL ls) k (natL_ok h) hk
  have hl : (natL ls).length = ls.length := by rw [natL, List.length_map]
  rw [hl] at h1 h4 h5
  rw [← natL_take] at h2 h5
  have hlen : (flat (natL (ls.take j))).length + rest.length = k := by
    have := congrArg List.length h2
    rw [List.length_take, List.length_append] at this
    omega
  refine ⟨j, rest, h1, ?_, hlen, fun e => ?_, h5⟩
  · rw [h2]
    exact read_eq (natL_ok fun es he => h es (List.mem_of_mem_take he)) h3
  · have hr := h4 e
    subst hr
    rw [e, List.take_length] at hlen
    simpa using hlen.symm

set_option maxRecDepth 20000 in
set_option maxHeartbeats 4000000 in
theorem back_law (hbat : BatchSays) (hfact : FactSays) (w : World) (Al : Option Addr) (n cl : Nat) (ls : List (List E3)) (hn : n = ls.length) (h : RdB w (.slice Al n cl) ls) (hs : Small ls) (hnc : n ≤ cl) (hcl : cl ≤ 9223372036854775807) (cut : Int) (t1 : -9223372036854775808 ≤ cut) (t2 : cut ≤ 9223372036854775807) :
    Calls Try.prog 5 #[.slice Al n cl, .int .i64 cut] w fun e w' => e = .returned (.bool true) ∧ Below w.heap.size w w' := by
  have HBAT := hide hbat
  have HFACT := hide hfact
  have H := hide h
  have S := hide hs
  have HN := hide hn
  have hn6 : n ≤ 2000000 := hn ▸ hs.1
  clear hbat hfact h hs hn
  go_enter Try.func5, Try.ntmps5
  go_wp2_with fail
  refine (HFACT.out w).mono ?_
  rintro e w1 ⟨rfl, hb1⟩
  have HB1 := hide hb1
  clear hb1
  go_wp2_with fail
  refine (write_any _ ls w1 (H.out.below HB1.out) (by have := S.out.1; omega) S.out.2.2).mono ?_
  rintro e w2 ⟨hb2, ⟨hok, A2, c2, rfl, ho2⟩ | ⟨pre, es, hp, hpe, hf, rfl⟩⟩
  · have HB2 := hide (HB1.out.trans (hb2.mono HB1.out.size))
    have HOK := hide hok
    have HO2 := hide ho2
    obtain ⟨x, hx⟩ : ∃ x, x = flat (natL ls) := ⟨_, rfl⟩
    have HX := hide hx
    have HXL : Hid (x.length ≤ 100000000) := hide (by have := S.out.2.2 ls.length; rw [List.take_length, ← hx] at this; exact this)
    rw [← hx] at HO2 ⊢
    clear hb2 hok ho2 hx
    have HREAD : Hid (Rec.read x = (natL ls, [])) := hide (by
      have e : x = flat (natL ls) ++ [] := by rw [List.append_nil, HX.out]
      rw [e]
      exact read_eq (natL_ok HOK.out) decB_nil)
    have HBACK := hide (natL_back HOK.out)
    have HDATA := hide (own_data HO2.out rfl (by have := HXL.out; omega) x.length (Nat.le_refl _))
    rw [List.take_length] at HDATA
    have HRD := hide (read_any HBAT.out A2 c2 x w2 HDATA.out (by have := HXL.out; omega))
    rw [HREAD.out] at HRD
    simp only [List.length_nil, Nat.sub_zero] at HRD
    obtain ⟨m, hm⟩ : ∃ m, m = x.length := ⟨_, rfl⟩
    have HM := hide hm
    have hm8 : m ≤ 100000000 := hm ▸ HXL.out
    rw [← hm] at HRD HO2 ⊢
    clear hm HDATA HREAD
    go_wp2_with fail
    refine HRD.out.mono ?_
    rintro e w3 ⟨v3, rfl, hbt3, hb3⟩
    have HM3 : Hid (RdB w3 v3 ls) := hide (by
      have h := hbt3.rd
      rw [HBACK.out] at h
      exact h)
    have HB3 := hide (HB2.out.trans (hb3.mono HB2.out.size))
    have HO3 := hide (own_below HO2.out hb3 (Nat.le_refl _))
    clear hbt3 hb3 HRD HO2
    have HS := hide (batches_same v3 (.slice Al n cl) ls w3 HM3.out (H.out.below HB3.out) (by have := S.out.1; omega) S.out.2.1)
    have hmm : ((m : Int) != (m : Int)) = false := by simp
    go_wp2_with fail
    refine HS.out.mono ?_
    rintro e w4 ⟨rfl, d4, hd4⟩
    have HB4 := hide (below_drewN HB3.out d4)
    have HO4 := hide (own_below HO3.out (below_drewN (Below.refl _ _) d4) (Nat.le_refl _))
    rw [← hd4] at HB4 HO4
    clear hd4 HO3 HS
    go_wp2_with fail
    refine (pick_any cut (m + 1) _ (by omega) (by omega) (by omega) t1 t2 w4).mono ?_
    rintro e w5 ⟨rfl, rfl⟩
    have hk := pickN_lt cut (m + 1) (by omega)
    generalize pickN cut (m + 1) = k at hk
    obtain ⟨j, rest, hpart⟩ := part_any HOK.out k (by rw [← HX.out, ← HM.out]; omega)
    have HP := hide hpart
    clear hpart
    obtain ⟨A2', c2', hv2, hmc, hcm, -, -, -⟩ := own_form HO4.out
    obtain ⟨rfl, rfl⟩ : A2 = A2' ∧ c2 = c2' := by injection hv2 with h1 h2 h3; exact ⟨h1, h3⟩
    clear hv2
    have hkc : (k : Int) ≤ (c2 : Int) := by omega
    go_wp2_with fail
    have hjl : j ≤ n := by rw [HN.out]; exact HP.out.1
    obtain ⟨q, hq⟩ : ∃ q, q = (flat (natL (ls.take j))).length := ⟨_, rfl⟩
    have HQ := hide hq
    have hqk : q ≤ k := by have := HP.out.2.2.1; omega
    have HPX : Hid (Rec.read (x.take k) = (natL (ls.take j), rest)) := hide (by rw [HX.out]; exact HP.out.2.1)
    have hlk : (x.take k).length = k := by rw [List.length_take, ← HM.out]; omega
    have hkq : k - rest.length = q := by have := HP.out.2.2.1; omega
    have HDATA := hide (own_data HO4.out HM.out (by have := HXL.out; omega) k (by omega))
    have HRD := hide (read_any HBAT.out A2 c2 (x.take k) w4 HDATA.out (by omega))
    rw [HPX.out, hlk] at HRD
    simp only at HRD
    rw [hkq] at HRD
    clear hq hlk hkq HDATA HPX
    refine HRD.out.mono ?_
    rintro e w6 ⟨v6, rfl, hbt6, hb6⟩
    obtain ⟨A6, c6, hv6⟩ := hbt6.form
    have hl6 : (natL (ls.take j)).length = j := by rw [natL, List.length_map, List.length_take, ← HN.out, Nat.min_eq_left hjl]
    rw [hl6] at hv6
    subst hv6
    have HM6 : Hid (RdB w6 (.slice A6 j c6) (ls.take j)) := hide (by
      have h := hbt6.rd
      rw [natL_back (fun es he => HOK.out es (List.mem_of_mem_take he))] at h
      exact h)
    have HB6 := hide (HB4.out.trans (hb6.mono HB4.out.size))
    clear hbt6 hb6 HRD hl6
    have HL6 := hide ((H.out.take j (by rw [← HN.out]; exact hjl)).below HB6.out)
    have HS := hide (batches_same _ _ (ls.take j) w6 HM6.out HL6.out (by have := (S.out.take j).1; omega) (S.out.take j).2.1)
    have hd1 : decide ((q : Int) > (k : Int)) = false := by simp; omega
    have hd2 : decide ((j : Int) > (n : Int)) = false := by simp; omega
    have hjc : (j : Int) ≤ (cl : Int) := by omega
    go_wp2_with fail
    refine HS.out.mono ?_
    rintro e w7 ⟨rfl, d7, hd7⟩
    have HB7 := hide (below_drewN HB6.out d7)
    rw [← hd7] at HB7
    clear hd7 HS HL6 HM6
    go_wp2_with fail
    refine (write_any _ (ls.take j) w7 ((H.out.take j (by rw [← HN.out]; exact hjl)).below HB7.out) (by have := (S.out.take j).1; omega) (S.out.take j).2.2).mono ?_
    rintro e w8 ⟨hb8, ⟨hok8, A8, c8, rfl, ho8⟩ | ⟨pre, es, hp, hpe, hf, rfl⟩⟩
    · have HB8 := hide (HB7.out.trans (hb8.mono HB7.out.size))
      rw [← HQ.out]
      have hqq : ((q : Int) != (q : Int)) = false := by simp
      clear hok8 ho8 hb8
      by_cases hje : j = n
      · have hje2 : ((j : Int) == (n : Int)) = true := by simp; omega
        have hkm : ((k : Int) == (m : Int)) = true := by
          have := HP.out.2.2.2.1 (by rw [← HN.out]; exact hje)
          rw [← HX.out, ← HM.out] at this
          simp; omega
        go_wp2_with fail
        go_ret
        exact ⟨rfl, HB8.out⟩
      · have hje2 : ((j : Int) == (n : Int)) = false := by simp; omega
        have hjc1 : (j : Int) + 1 ≤ (cl : Int) := by omega
        have HNAT : Hid ((j : Int) + 1 = ((j + 1 : Nat) : Int)) := hide (by omega)
        have HJ1 : Hid (j + 1 ≤ ls.length) := hide (by rw [← HN.out]; omega)
        go_wp2_with fail
        refine (write_any _ (ls.take (j + 1)) w8 ((H.out.take (j + 1) HJ1.out).below HB8.out) (by have := (S.out.take (j + 1)).1; omega) (S.out.take (j + 1)).2.2).mono ?_
        rintro e w9 ⟨hb9, ⟨hok9, A9, c9, rfl, ho9⟩ | ⟨pre, es, hp, hpe, hf, rfl⟩⟩
        · have HB9 := hide (HB8.out.trans (hb9.mono HB8.out.size))
          have hlt : k < (flat (natL (ls.take (j + 1)))).length := HP.out.2.2.2.2 (by have := HJ1.out; omega)
          generalize (flat (natL (ls.take (j + 1)))).length = z at hlt
          have hz : decide ((z : Int) > (k : Int)) = true := by simp; omega
          clear hok9 ho9 hb9
          go_wp2_with fail
          go_ret
          exact ⟨rfl, HB9.out⟩
        · exact absurd (HOK.out es (List.mem_of_mem_take (write_bad hpe))) hf
    · exact absurd (HOK.out es (List.mem_of_mem_take (write_bad hpe))) hf
  · have HB2 := hide (HB1.out.trans (hb2.mono HB1.out.size))
    clear hb2 hf
    unfold errR
    go_wp2_with fail
    go_ret
    exact ⟨rfl, HB2.out⟩
end Go.Proofs.Ytndhmdengadmjaa.RecW
