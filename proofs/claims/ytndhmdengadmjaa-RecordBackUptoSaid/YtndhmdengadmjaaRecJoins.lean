/- The walk of granarylaw1.RecordJoins, over what batch and recordFact say. -/
import Derived.Test.YtndhmdengadmjaaRecJoin
set_option linter.unusedVariables false
namespace Go.Proofs.Ytndhmdengadmjaa.RecW
open Go.RowKit Rec BufW I64

/-- What is needed of a list of batches that came in. -/
def Small (ls : List (List E3)) : Prop := ls.length ≤ 2000000 ∧ (∀ es ∈ ls, es.length ≤ 1000000000) ∧ ∀ i, (flat (natL (ls.take i))).length ≤ 100000000

theorem write_bad {ls : List (List E3)} {pre : List (List E3)} {es : List E3} (h : pre ++ [es] <+: ls) : es ∈ ls := by
  obtain ⟨t, rfl⟩ := h
  simp

set_option maxRecDepth 20000 in
set_option maxHeartbeats 4000000 in
theorem joins_law (hbat : BatchSays) (hfact : FactSays) (w : World) (v1 v2 : Value) (l1 l2 : List (List E3)) (h1 : RdB w v1 l1) (h2 : RdB w v2 l2) (s1 : Small l1) (s2 : Small l2) :
    Calls Try.prog 6 #[v1, v2] w fun e w' => e = .returned (.bool true) ∧ Below w.heap.size w w' := by
  have HBAT := hide hbat
  have HFACT := hide hfact
  have H1 := hide h1
  have H2 := hide h2
  have S1 := hide s1
  have S2 := hide s2
  clear hbat hfact h1 h2 s1 s2
  go_enter Try.func6, Try.ntmps6
  go_wp2_with fail
  refine (HFACT.out w).mono ?_
  rintro e w1 ⟨rfl, hb1⟩
  have HB1 := hide hb1
  clear hb1
  go_wp2_with fail
  refine (write_any v1 l1 w1 (H1.out.below HB1.out) (by have := S1.out.1; omega) S1.out.2.2).mono ?_
  rintro e w2 ⟨hb2, ⟨hok1, A1, c1, rfl, ho1⟩ | ⟨pre, es, hp, hpe, hf, rfl⟩⟩
  · have HB2 := hide (HB1.out.trans (hb2.mono HB1.out.size))
    have HOK1 := hide hok1
    have HO1 := hide ho1
    clear hb2 hok1 ho1
    go_wp2_with fail
    refine (write_any v2 l2 w2 (H2.out.below HB2.out) (by have := S2.out.1; omega) S2.out.2.2).mono ?_
    rintro e w3 ⟨hb3, ⟨hok2, A2, c2, rfl, ho2⟩ | ⟨pre, es, hp, hpe, hf, rfl⟩⟩
    · have HB3 := hide (HB2.out.trans (hb3.mono HB2.out.size))
      have HOK2 := hide hok2
      have HO1' := hide (own_below HO1.out hb3 (Nat.le_refl _))
      have HO2 := hide ho2
      obtain ⟨x, hx⟩ : ∃ x, x = flat (natL l1) := ⟨_, rfl⟩
      obtain ⟨y, hy⟩ : ∃ y, y = flat (natL l2) := ⟨_, rfl⟩
      have HX := hide hx
      have HY := hide hy
      have HXL : Hid (x.length ≤ 100000000) := hide (by have := S1.out.2.2 l1.length; rw [List.take_length, ← hx] at this; exact this)
      have HYL : Hid (y.length ≤ 100000000) := hide (by have := S2.out.2.2 l2.length; rw [List.take_length, ← hy] at this; exact this)
      rw [← hx] at HO1' ⊢
      rw [← hy] at HO2 ⊢
      clear hb3 hok2 ho2 HO1 hx hy
      have R1 := hide ((Rd.of_own HO1'.out).alloc (.cells #[] 5))
      have R2 := hide ((Rd.of_own HO2.out).alloc (.cells #[] 5))
      have E0 := hide (own_empty w3)
      have hsz : (w3.alloc (.cells #[] 5)).heap.size = w3.heap.size + 1 := by simp
      have HSZ := hide hsz
      have HB4 := hide (HB3.out.trans ((Below.refl _ _).alloc HB3.out.size (.cells #[] 5)))
      clear hsz
      go_wp2_with (first
        | (refine wpList_app _ rfl (.tmp 34) (.tmp 35) rfl w3.heap.size _ 0 [] rfl E0.out A1 x.length c1 x rfl rfl R1.out (by have := HXL.out; omega) (by have := HSZ.out; omega) ?_
           intro A5 c5 w5 hc5 ho5 hb5
           rw [List.nil_append, Nat.zero_add] at ho5
           rw [Nat.zero_add] at hc5 ⊢
           have HO5 := hide ho5
           have HB5 := hide (HB4.out.trans (hb5.mono HB3.out.size))
           have R2' := hide (Rd.of_own (own_below HO2.out ((Below.refl _ _).alloc (Nat.le_refl _) (.cells #[] 5) |>.trans hb5) (Nat.le_refl _)))
           have HW5 : Hid (w3.heap.size ≤ w5.heap.size) := hide (by have := hb5.size; have := HSZ.out; omega)
           clear ho5 hb5)
        | (refine wpList_app _ rfl (.tmp 37) (.tmp 38) rfl w3.heap.size _ x.length x rfl HO5.out A2 y.length c2 y rfl rfl R2'.out (by have := HXL.out; have := HYL.out; omega) HW5.out ?_
           intro A6 c6 w6 hc6 ho6 hb6
           have HO6 := hide ho6
           have HB6 := hide (HB5.out.trans (hb6.mono HB3.out.size))
           have HC6 := hide hc6
           clear ho6 hb6 hc6)
        | fail)
      have HLA : Hid (x.length + y.length = (x ++ y).length) := hide (List.length_append).symm
      have HALL : Hid (∀ es ∈ l1 ++ l2, faultOf es = 0) := hide (fun es he => by
        rcases List.mem_append.1 he with he | he
        · exact HOK1.out es he
        · exact HOK2.out es he)
      have HREAD : Hid (Rec.read (x ++ y) = (natL (l1 ++ l2), [])) := hide (by
        have e : x ++ y = flat (natL (l1 ++ l2)) ++ [] := by rw [List.append_nil, natL, List.map_append, flat_append, HX.out, HY.out]; rfl
        rw [e]
        refine read_eq (fun es he => ?_) decB_nil
        obtain ⟨q, hq, rfl⟩ := List.mem_map.1 he
        exact okB_nat (HALL.out q hq))
      have HBACK : Hid ((natL (l1 ++ l2)).map intE = l1 ++ l2) := hide (by
        rw [natL, List.map_map]
        conv => rhs; rw [← List.map_id (l1 ++ l2)]
        refine List.map_congr_left fun es he => ?_
        exact intE_nat (fault_ok (HALL.out es he)).2)
      have HDATA : Hid (BufW.Data w6 w6.heap.size (x ++ y) A6 c6) := hide ⟨by rw [← HLA.out]; exact HC6.out, by rw [← HLA.out]; have := HXL.out; have := HYL.out; omega, .inr (fun ad e => by subst e; exact .inl (HO6.out.lt _ rfl).2), Rd.of_own HO6.out⟩
      have HRD := hide (read_any HBAT.out A6 c6 (x ++ y) w6 HDATA.out (by rw [← HLA.out]; have := HXL.out; have := HYL.out; omega))
      rw [HREAD.out] at HRD
      rw [HLA.out]
      simp only [List.length_nil, Nat.sub_zero] at HRD
      obtain ⟨zn, hzn⟩ : ∃ zn, zn = (x ++ y).length := ⟨_, rfl⟩
      rw [← hzn] at HRD ⊢
      clear hzn
      refine HRD.out.mono ?_
      rintro e w7 ⟨v7, rfl, hbt7, hb7⟩
      have HB7 := hide (HB6.out.trans (hb7.mono HB6.out.size))
      have HBT7 := hide hbt7
      clear hbt7 hb7
      have E7 := hide (OwnB.empty w w7)
      have hsz7 : (w7.alloc (.cells #[] 70)).heap.size = w7.heap.size + 1 := by simp
      have HSZ7 := hide hsz7
      have HB8 := hide (HB7.out.trans ((Below.refl _ _).alloc HB7.out.size (.cells #[] 70)))
      have hzz : ((zn : Int) == (zn : Int)) = true := by simp
      clear hsz7
      go_wp2_with (first
        | (refine wpList_bats (w0 := w) rfl (.tmp 45) (.tmp 46) rfl rfl E7.out rfl H1.out HB8.out (by have := S1.out.1; simp only [List.length_nil]; omega) (by have := HSZ7.out; omega) ?_
           intro v9 w9 ho9 hf9
           rw [List.nil_append] at ho9
           have HO9 := hide ho9
           have HB9 := hide (HB8.out.trans (hf9.low.mono HB7.out.size))
           have HW9 : Hid (w7.heap.size ≤ w9.heap.size) := hide (by have := hf9.size; have := HSZ7.out; omega)
           have HL9 := hide (Fr.low hf9)
           clear ho9 hf9)
        | (refine wpList_bats (w0 := w) rfl (.tmp 48) (.tmp 49) rfl rfl HO9.out rfl H2.out HB9.out (by have := S1.out.1; have := S2.out.1; omega) HW9.out ?_
           intro v10 w10 ho10 hf10
           have HO10 := hide ho10
           have HB10 := hide (HB9.out.trans (hf10.low.mono HB7.out.size))
           have HL10 := hide (Fr.low hf10)
           clear ho10 hf10)
        | fail)
      have HM10 : Hid (RdB w10 v7 (l1 ++ l2)) := hide (by
        have h := HBT7.out.rd
        rw [HBACK.out] at h
        exact h.below ((((Below.refl _ _).alloc (Nat.le_refl _) (.cells #[] 70)).trans HL9.out).trans HL10.out))
      have HS := hide (batches_same v7 v10 (l1 ++ l2) w10 HM10.out (HO10.out.rd HB10.out) (by rw [List.length_append]; have := S1.out.1; have := S2.out.1; omega) (fun es he => by
        rcases List.mem_append.1 he with he | he
        · exact S1.out.2.1 es he
        · exact S2.out.2.1 es he))
      refine HS.out.mono ?_
      rintro e w11 ⟨rfl, d11, rfl⟩
      go_wp2_with fail
      go_ret
      exact ⟨rfl, below_drewN HB10.out d11⟩
    · have HB3 := hide (HB2.out.trans (hb3.mono HB2.out.size))
      have HF := hide hf
      clear hb3 hf
      unfold errR
      go_wp2_with fail
      go_ret
      exact ⟨rfl, HB3.out⟩
  · have HB2 := hide (HB1.out.trans (hb2.mono HB1.out.size))
    clear hb2 hf
    unfold errR
    go_wp2_with fail
    refine (write_any v2 l2 w2 (H2.out.below HB2.out) (by have := S2.out.1; omega) S2.out.2.2).mono ?_
    rintro e w3 ⟨hb3, ⟨hok2, A2, c2, rfl, ho2⟩ | ⟨pre2, es2, hp2, hpe2, hf2, rfl⟩⟩
    · have HB3 := hide (HB2.out.trans (hb3.mono HB2.out.size))
      clear hb3 ho2
      go_wp2_with fail
      go_ret
      exact ⟨rfl, HB3.out⟩
    · have HB3 := hide (HB2.out.trans (hb3.mono HB2.out.size))
      clear hb3 hf2
      unfold errR
      go_wp2_with fail
      go_ret
      exact ⟨rfl, HB3.out⟩
end Go.Proofs.Ytndhmdengadmjaa.RecW
