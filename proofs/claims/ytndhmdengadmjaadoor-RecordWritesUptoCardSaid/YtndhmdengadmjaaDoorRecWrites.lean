/- The walks of granaryref1.RecordFault, RecordOf; granarylaw1.RecordWrites. -/
import Derived.Test.YtndhmdengadmjaaDoorRefBatch
import Derived.Test.YtndhmdengadmjaaDoorRecSmall
import Derived.Test.YtndhmdengadmjaaDoorTold
set_option linter.unusedVariables false
namespace Go.Proofs.YtndhmdengadmjaaDoor.RecW
open Go.RowKit Rec I64 ToldW

/-- What is wrong with batches: what is wrong with the first bad one. -/
def faultsOf : List (List E3) → Int
  | [] => 0
  | es :: ls => if faultOf es = 0 then faultsOf ls else faultOf es
theorem faults_all : ∀ ls : List (List E3), (∀ es ∈ ls, faultOf es = 0) → faultsOf ls = 0
  | [], _ => rfl
  | es :: ls, h => by rw [faultsOf, if_pos (h es (List.mem_cons_self ..))]; exact faults_all ls (fun x hx => h x (List.mem_cons_of_mem _ hx))
theorem faults_pre : ∀ (pre : List (List E3)) (es : List E3) (t : List (List E3)), (∀ x ∈ pre, faultOf x = 0) → faultOf es ≠ 0 → faultsOf (pre ++ es :: t) = faultOf es
  | [], es, t, _, h => by rw [List.nil_append, faultsOf, if_neg h]
  | p :: pre, es, t, hp, h => by rw [List.cons_append, faultsOf, if_pos (hp p (List.mem_cons_self ..))]; exact faults_pre pre es t (fun x hx => hp x (List.mem_cons_of_mem _ hx)) h
theorem faults_at {ls : List (List E3)} {i : Nat} {es : List E3} (hi : ls[i]? = some es) (h : ∀ q x, q < i → ls[q]? = some x → faultOf x = 0) (hf : faultOf es ≠ 0) : faultsOf ls = faultOf es := by
  have h1 : ls = ls.take i ++ es :: ls.drop (i + 1) := by
    conv => lhs; rw [← List.take_append_drop i ls]
    congr 1
    obtain ⟨hl, he⟩ := List.getElem?_eq_some_iff.1 hi
    rw [List.drop_eq_getElem_cons hl, he]
  rw [h1]
  refine faults_pre _ _ _ (fun x hx => ?_) hf
  obtain ⟨q, hq, hqe⟩ := List.getElem_of_mem hx
  have hq2 : q < i := by rw [List.length_take] at hq; omega
  exact h q x hq2 (by rw [← hqe, List.getElem_take, List.getElem?_eq_getElem])
theorem bad_six {x y z : Int} (h : ¬ okE3 (x, y, z)) : (x < 0) ∨ (¬ x < 0 ∧ 4611686018427387904 < x) ∨ (¬ x < 0 ∧ ¬ 4611686018427387904 < x ∧ y < 0) ∨ (¬ x < 0 ∧ ¬ 4611686018427387904 < x ∧ ¬ y < 0 ∧ 4611686018427387904 < y) ∨ (¬ x < 0 ∧ ¬ 4611686018427387904 < x ∧ ¬ y < 0 ∧ ¬ 4611686018427387904 < y ∧ z < 0) ∨ (¬ x < 0 ∧ ¬ 4611686018427387904 < x ∧ ¬ y < 0 ∧ ¬ 4611686018427387904 < y ∧ ¬ z < 0 ∧ 4611686018427387904 < z) := by
  unfold okE3 inN at h
  simp only at h
  omega
theorem fault_three {es : List E3} {m : Nat} (hm : m = es.length) (h : 64 < m) : faultOf es = 3 := by unfold faultOf; rw [if_pos (by omega)]
theorem fault_one {es : List E3} {m k : Nat} {e : E3} (hm : m = es.length) (h : ¬ 64 < m) (he : es[k]? = some e) (hb : ¬ okE3 e) : faultOf es = 1 := by
  unfold faultOf
  rw [if_neg (by omega), if_neg]
  exact fun hall => hb (hall _ (List.mem_of_getElem? he))
theorem fault_zero {es : List E3} {m : Nat} (hm : m = es.length) (h : ¬ 64 < m) (hb : ∀ q e, q < m → es[q]? = some e → okE3 e) : faultOf es = 0 := by
  unfold faultOf
  rw [if_neg (by omega), if_pos]
  intro e he
  obtain ⟨q, hq, hqe⟩ := List.getElem_of_mem he
  exact hb q e (by omega) (by rw [List.getElem?_eq_getElem hq, hqe])

set_option maxRecDepth 20000 in
set_option maxHeartbeats 4000000 in
theorem rfault_any (v : Value) (ls : List (List E3)) (w : World) (h : RdB w v ls) (hl : ls.length ≤ 1000000000) (hle : ∀ es ∈ ls, es.length ≤ 1000000000) :
    Calls Tryd.prog 7 #[v] w fun e w' => e = .returned (.int .i64 (faultsOf ls)) ∧ Below w.heap.size w w' := by
  obtain ⟨A, c, rfl, h⟩ := h
  have H := hide h
  have HL := hide hle
  obtain ⟨n, hn⟩ : ∃ n, n = ls.length := ⟨_, rfl⟩
  have HN := hide hn
  rw [← hn] at hl ⊢
  clear h hn hle
  go_enter Tryd.func7, Tryd.ntmps7
  go_wp2_with fail
  go_loopw [3] (fun i wr => ∃ i' : Nat, i' ≤ n ∧ i = .int .i64 i' ∧ Hid (Below w.heap.size w wr ∧ ∀ q x, q < i' → ls[q]? = some x → faultOf x = 0)) (fun i _ => n - (intOf i).toNat)
  case atStart => exact ⟨0, by omega, rfl, hide ⟨Below.refl _ _, fun q e hq => absurd hq (Nat.not_lt_zero q)⟩⟩
  case round =>
    obtain ⟨i, hi, rfl, HS⟩ := hrel
    by_cases hlt : i < n
    · have hd1 : decide ((i : Int) < (n : Int)) = true := by simp; omega
      have hii : (i : Int) < (n : Int) := by omega
      obtain ⟨es, hes⟩ : ∃ es, ls[i]? = some es := ⟨ls[i]'(by rw [← HN.out]; exact hlt), List.getElem?_eq_getElem (by rw [← HN.out]; exact hlt)⟩
      obtain ⟨b, off, ve, rfl, a1, e1⟩ := H.out i es hes
      obtain ⟨Ae, ce, rfl, e1⟩ := e1
      obtain ⟨m, hm⟩ : ∃ m, m = es.length := ⟨_, rfl⟩
      have hm9 : m ≤ 1000000000 := by rw [hm]; exact HL.out es (List.mem_of_getElem? hes)
      have HM := hide hm
      rw [← hm] at a1
      have A1 := hide a1
      have E1 := hide e1
      have HES := hide hes
      have x1 := (HS.out.1.cell (World.block_lt_of_cell? w _ a1)).trans a1
      clear hes e1 hm a1
      by_cases hbig : 64 < m
      · have d1 : decide ((m : Int) > 64) = true := by simp; omega
        have HR3 : Hid (faultsOf ls = 3) := hide (by
          have h3 := fault_three HM.out hbig
          rw [faults_at HES.out HS.out.2 (by rw [h3]; decide), h3])
        clear hbig
        go_wp2_with fail
        go_ret
        exact ⟨by rw [HR3.out]; rfl, HS.out.1⟩
      · have d1 : decide ((m : Int) > 64) = false := by simp; omega
        go_wp2_with fail
        clear x1
        go_loopw [4] (fun j wq => ∃ k : Nat, k ≤ m ∧ j = .int .i64 k ∧ Hid (Below w.heap.size w wq ∧ ∀ q e, q < k → es[q]? = some e → okE3 e)) (fun j _ => m - (intOf j).toNat)
        case atStart => exact ⟨0, by omega, rfl, hide ⟨HS.out.1, fun q e hq => absurd hq (Nat.not_lt_zero q)⟩⟩
        case round =>
          obtain ⟨k, hk, rfl, HI⟩ := hrel
          have x1 := (HI.out.1.cell (World.block_lt_of_cell? w _ A1.out)).trans A1.out
          by_cases hlt2 : k < m
          · have hd2 : decide ((k : Int) < (m : Int)) = true := by simp; omega
            have hki : (k : Int) < (m : Int) := by omega
            obtain ⟨e, he⟩ : ∃ e, es[k]? = some e := ⟨es[k]'(by rw [← HM.out]; exact hlt2), List.getElem?_eq_getElem (by rw [← HM.out]; exact hlt2)⟩
            obtain ⟨be, oe, rfl, a1, a2, a3⟩ := E1.out k e he
            have y1 := (HI.out.1.cell (World.block_lt_of_cell? w _ a1)).trans a1
            have y2 := (HI.out.1.cell (World.block_lt_of_cell? w _ a2)).trans a2
            have y3 := (HI.out.1.cell (World.block_lt_of_cell? w _ a3)).trans a3
            obtain ⟨x, y, z⟩ := e
            simp only at y1 y2 y3
            have HE := hide he
            clear he a1 a2 a3
            have HB2 : Hid (Below w.heap.size w (wr.alloc (.cells #[.int .i64 x, .int .i64 y, .int .i64 z] 60))) := hide (HI.out.1.trans ((Below.refl _ _).alloc HI.out.1.size _))
            have K := Bk.new wr 60 #[.int .i64 x, .int .i64 y, .int .i64 z]
            have k1 := K.at_ (i := 0) (u := .int .i64 x) rfl
            have k2 := K.at_ (i := 1) (u := .int .i64 y) rfl
            have k3 := K.at_ (i := 2) (u := .int .i64 z) rfl
            clear K
            by_cases hok : okE3 (x, y, z)
            · have HOK := hide hok
              unfold okE3 inN at hok
              simp only at hok
              have d10 : decide (x < 0) = false := decide_eq_false (by omega)
              have d11 : decide (x > 4611686018427387904) = false := decide_eq_false (by omega)
              have d12 : decide (y < 0) = false := decide_eq_false (by omega)
              have d13 : decide (y > 4611686018427387904) = false := decide_eq_false (by omega)
              have d14 : decide (z < 0) = false := decide_eq_false (by omega)
              have d15 : decide (z > 4611686018427387904) = false := decide_eq_false (by omega)
              clear hok
              go_wp2_with fail
              go_roundw
              case rel => exact ⟨k + 1, by omega, by go_num, hide ⟨HB2.out, fun q e hq hqe => by
                rcases Nat.lt_or_ge q k with h | h
                · exact HI.out.2 q e h hqe
                · have : q = k := by omega
                  subst this
                  rw [HE.out] at hqe
                  injection hqe with hqe
                  subst hqe
                  exact HOK.out⟩⟩
              case measure => simp [intOf]; omega
            · have HR1 : Hid (faultsOf ls = 1) := hide (by
                have h1 := fault_one HM.out hbig HE.out hok
                rw [faults_at HES.out HS.out.2 (by rw [h1]; decide), h1])
              have hbad := bad_six hok
              clear hok
              rcases hbad with hbad | hbad | hbad | hbad | hbad | hbad
              · have d10 : decide (x < 0) = true := decide_eq_true (by omega)
                clear hbad
                go_wp2_with fail
                go_ret
                exact ⟨by rw [HR1.out]; rfl, HB2.out⟩
              · have d10 : decide (x < 0) = false := decide_eq_false (by omega)
                have d11 : decide (x > 4611686018427387904) = true := decide_eq_true (by omega)
                clear hbad
                go_wp2_with fail
                go_ret
                exact ⟨by rw [HR1.out]; rfl, HB2.out⟩
              · have d10 : decide (x < 0) = false := decide_eq_false (by omega)
                have d11 : decide (x > 4611686018427387904) = false := decide_eq_false (by omega)
                have d12 : decide (y < 0) = true := decide_eq_true (by omega)
                clear hbad
                go_wp2_with fail
                go_ret
                exact ⟨by rw [HR1.out]; rfl, HB2.out⟩
              · have d10 : decide (x < 0) = false := decide_eq_false (by omega)
                have d11 : decide (x > 4611686018427387904) = false := decide_eq_false (by omega)
                have d12 : decide (y < 0) = false := decide_eq_false (by omega)
                have d13 : decide (y > 4611686018427387904) = true := decide_eq_true (by omega)
                clear hbad
                go_wp2_with fail
                go_ret
                exact ⟨by rw [HR1.out]; rfl, HB2.out⟩
              · have d10 : decide (x < 0) = false := decide_eq_false (by omega)
                have d11 : decide (x > 4611686018427387904) = false := decide_eq_false (by omega)
                have d12 : decide (y < 0) = false := decide_eq_false (by omega)
                have d13 : decide (y > 4611686018427387904) = false := decide_eq_false (by omega)
                have d14 : decide (z < 0) = true := decide_eq_true (by omega)
                clear hbad
                go_wp2_with fail
                go_ret
                exact ⟨by rw [HR1.out]; rfl, HB2.out⟩
              · have d10 : decide (x < 0) = false := decide_eq_false (by omega)
                have d11 : decide (x > 4611686018427387904) = false := decide_eq_false (by omega)
                have d12 : decide (y < 0) = false := decide_eq_false (by omega)
                have d13 : decide (y > 4611686018427387904) = false := decide_eq_false (by omega)
                have d14 : decide (z < 0) = false := decide_eq_false (by omega)
                have d15 : decide (z > 4611686018427387904) = true := decide_eq_true (by omega)
                clear hbad
                go_wp2_with fail
                go_ret
                exact ⟨by rw [HR1.out]; rfl, HB2.out⟩
          · have hd2 : decide ((k : Int) < (m : Int)) = false := by simp; omega
            have HF0 := hide (fault_zero HM.out hbig (fun q e hq hqe => HI.out.2 q e (by omega) hqe))
            go_wp2_with fail
            go_roundw
            case rel => exact ⟨i + 1, by omega, by go_num, hide ⟨HI.out.1, fun q e hq hqe => by
              rcases Nat.lt_or_ge q i with h | h
              · exact HS.out.2 q e h hqe
              · have : q = i := by omega
                subst this
                rw [HES.out] at hqe
                injection hqe with hqe
                subst hqe
                exact HF0.out⟩⟩
            case measure => simp [intOf]; omega
    · have hd1 : decide ((i : Int) < (n : Int)) = false := by simp; omega
      have HF : Hid (faultsOf ls = 0) := hide (faults_all ls (fun es he => by
        obtain ⟨q, hq, hqe⟩ := List.getElem_of_mem he
        exact HS.out.2 q es (by have := HN.out; omega) (by rw [List.getElem?_eq_getElem hq, hqe])))
      go_wp2_with fail
      go_ret
      exact ⟨by rw [HF.out]; rfl, HS.out.1⟩

/-- What RecordOf says. -/
def OfPost (w : World) (l : List UInt8) (e : Ending) (w' : World) : Prop :=
  ∃ A c, e = .returned (.slice A l.length c) ∧ w'.ownsRow w.heap.size 5 1 (.slice A l.length c) l.length (u8v l) ∧ Below w.heap.size w w'
theorem ok_of_fault {es : List E3} (h : faultOf es = 0) : es.length ≤ 64 ∧ ∀ e ∈ es, okE3 e := by
  unfold faultOf at h
  by_cases h1 : 64 < es.length
  · rw [if_pos h1] at h; cases h
  · rw [if_neg h1] at h
    refine ⟨by omega, ?_⟩
    by_cases h2 : ∀ e ∈ es, okE3 e
    · exact h2
    · rw [if_neg h2] at h; cases h
theorem flat_take {ls : List (List E3)} {i : Nat} {es : List E3} (h : ls[i]? = some es) : flat (natL (ls.take (i + 1))) = flat (natL (ls.take i)) ++ bat (natE es) := by
  rw [List.take_add_one, h]
  simp [natL, flat_append, flat]

set_option maxRecDepth 20000 in
set_option maxHeartbeats 4000000 in
theorem recordOf_any (v : Value) (ls : List (List E3)) (w : World) (h : RdB w v ls) (hs : Small ls) (hok : ∀ es ∈ ls, faultOf es = 0) :
    Calls Tryd.prog 9 #[v] w (OfPost w (flat (natL ls))) := by
  obtain ⟨A, c, rfl, h⟩ := h
  have H := hide h
  have HS := hide hs
  have HOK := hide hok
  obtain ⟨n, hn⟩ : ∃ n, n = ls.length := ⟨_, rfl⟩
  have HN := hide hn
  have hl : n ≤ 2000000 := by rw [hn]; exact hs.1
  rw [← hn]
  clear h hn hs hok
  go_enter Tryd.func9, Tryd.ntmps9
  go_wp2_with fail
  go_loopw [3, 4] (fun o i wr => ∃ i' : Nat, i' ≤ n ∧ i = .int .i64 i' ∧ Hid (WS w wr ls i' o)) (fun _ i _ => n - (intOf i).toNat)
  case atStart => exact ⟨0, by omega, rfl, hide ⟨⟨rfl, .inl ⟨rfl, rfl⟩⟩, (fun es he => by cases he), Below.refl _ _⟩⟩
  case round =>
    obtain ⟨i, hi, rfl, HW⟩ := hrel
    obtain ⟨Ao, co, rfl, -⟩ := own_form HW.out.own
    by_cases hlt : i < n
    · have hd1 : decide ((i : Int) < (n : Int)) = true := by simp; omega
      have hii : (i : Int) < (n : Int) := by omega
      obtain ⟨es, hes⟩ : ∃ es, ls[i]? = some es := ⟨ls[i]'(by rw [← HN.out]; exact hlt), List.getElem?_eq_getElem (by rw [← HN.out]; exact hlt)⟩
      obtain ⟨b, off, ve, rfl, a1, e1⟩ := H.out i es hes
      have x1 := (HW.out.low.cell (World.block_lt_of_cell? w _ a1)).trans a1
      have HV := hide (e1.below (HW.out.low.mono (Nat.le_refl _)))
      have hk := ok_of_fault (HOK.out es (List.mem_of_getElem? hes))
      have HBO := hide (batchOf_any ve es wr HV.out hk.2 hk.1)
      unfold BatchPost at HBO
      have HES := hide hes
      obtain ⟨L, hL⟩ : ∃ L, L = (flat (natL (ls.take i))).length := ⟨_, rfl⟩
      have HLL := hide hL
      have hL9 : L ≤ 100000000 := by rw [hL]; exact HS.out.2.2 i
      obtain ⟨K, hK⟩ : ∃ K, K = (bat (natE es)).length := ⟨_, rfl⟩
      have HKK := hide hK
      have hsum : L + K ≤ 100000000 := by
        have h1 := HS.out.2.2 (i + 1)
        rw [flat_take hes, List.length_append] at h1
        omega
      rw [← hK] at HBO
      have HO := HW.out.own
      rw [← hL] at HO ⊢
      have HO := hide HO
      clear hes a1 e1 hk hL hK
      go_wp2_with fail
      refine HBO.out.mono ?_
      rintro e w5 ⟨A5, c5, rfl, ho5, hb5⟩
      have HB5 := hide (HW.out.low.trans (hb5.mono HW.out.low.size))
      have HO5 := hide (own_below HO.out hb5 (Nat.le_refl _))
      have HR5 := hide (Rd.of_own ho5)
      have HZ : Hid (w.heap.size ≤ w5.heap.size) := hide HB5.out.size
      clear ho5 hb5 HBO HO
      go_wp2_with (first
        | (refine wpList_app3 w5 rfl (.tmp 17) (.tmp 18) rfl w.heap.size _ L (flat (natL (ls.take i))) rfl HO5.out A5 K c5 (bat (natE es)) rfl HKK.out HR5.out (by omega) HZ.out ?_
           intro A9 c9 w9 ho9 hg9 hv9 hb9
           rw [← flat_take HES.out] at ho9
           have HO9 := hide ho9
           have HB9 := hide (HB5.out.trans hb9)
           clear ho9 hg9 hv9 hb9)
        | fail)
      have HLK : Hid (L + K = (flat (natL (ls.take (i + 1)))).length) := hide (by rw [flat_take HES.out, List.length_append, HLL.out, HKK.out])
      go_roundw
      case rel => exact ⟨i + 1, by omega, by go_num, hide ⟨by rw [← HLK.out]; exact HO9.out, fun x hx => HOK.out x (List.mem_of_mem_take hx), HB9.out⟩⟩
      case measure => simp [intOf]; omega
    · have hd1 : decide ((i : Int) < (n : Int)) = false := by simp; omega
      obtain rfl : i = n := by omega
      have HT : Hid (ls.take i = ls) := hide (by rw [HN.out, List.take_length])
      rw [HT.out] at HW ⊢
      go_wp2_with fail
      go_ret
      exact ⟨_, _, rfl, by have h := HW.out.own; rw [HT.out] at h; exact h, HW.out.low⟩

set_option maxRecDepth 20000 in
set_option maxHeartbeats 4000000 in
theorem writes_law (w : World) (hE : ErrT w) (v : Value) (ls : List (List E3)) (h : RdB w v ls) (hs : Small ls) :
    Calls Tryd.prog 3 #[v] w fun e w' => e = .returned (.bool true) ∧ Below w.heap.size w w' := by
  have H := hide h
  have HS := hide hs
  have HE := hide hE
  clear h hs hE
  go_enter Tryd.func3, Tryd.ntmps3
  go_wp2_with fail
  refine (write_any v ls w H.out (by have := HS.out.1; omega) HS.out.2.2).mono ?_
  rintro e w1 ⟨hb1, hc⟩
  have HB1 := hide hb1
  have HRF := hide (rfault_any v ls w1 (H.out.below hb1) (by have := HS.out.1; omega) HS.out.2.1)
  clear hb1
  rcases hc with ⟨hall, A1, c1, rfl, ho1⟩ | ⟨pre, es, hpre, hpx, hf, rfl⟩
  · rw [faults_all ls hall] at HRF
    have HALL := hide hall
    obtain ⟨x, hx⟩ : ∃ x, x = flat (natL ls) := ⟨_, rfl⟩
    have HX := hide hx
    have HXL : Hid (x.length ≤ 100000000) := hide (by
      have := HS.out.2.2 ls.length
      rw [List.take_length] at this
      rw [hx]; exact this)
    rw [← hx] at ho1 ⊢
    have HO1 := hide ho1
    clear hall ho1 hx
    go_wp2_with fail
    refine HRF.out.mono ?_
    rintro e w2 ⟨rfl, hb2⟩
    have HO2 := hide (own_below HO1.out hb2 (Nat.le_refl _))
    have HB2 := hide (HB1.out.trans (hb2.mono HB1.out.size))
    clear hb2 HO1 HRF
    go_wp2_with fail
    refine (error_nil 0 w2 true (by decide)).mono ?_
    rintro e w3 ⟨rfl, hb3⟩
    have HO3 := hide (own_below HO2.out hb3 (Nat.le_refl _))
    have HB3 := hide (HB2.out.trans (hb3.mono HB2.out.size))
    clear hb3 HO2
    have HOF := hide (recordOf_any v ls w3 (H.out.below HB3.out) HS.out HALL.out)
    rw [← HX.out] at HOF
    unfold OfPost at HOF
    go_wp2_with fail
    refine HOF.out.mono ?_
    rintro e w4 ⟨A4, c4, rfl, ho4, hb4⟩
    have HSA := hide (same_any A1 A4 x x x.length x.length c1 c4 w4 rfl rfl (by have := HXL.out; omega) (Rd.of_own (own_below HO3.out hb4 (Nat.le_refl _))) (Rd.of_own ho4) true (by simp))
    have HB4 := hide (HB3.out.trans (hb4.mono HB3.out.size))
    clear ho4 hb4 HOF HO3
    go_wp2_with fail
    refine HSA.out.mono ?_
    rintro e w5 ⟨rfl, d5, rfl⟩
    go_wp2_with fail
    go_ret
    exact ⟨rfl, below_drewN HB4.out d5⟩
  · have HFS : Hid (faultsOf ls = faultOf es) := hide (by
      obtain ⟨t, rfl⟩ := hpx
      rw [List.append_assoc]
      exact faults_pre pre es t hpre hf)
    rw [HFS.out] at HRF
    generalize faultOf es = k at *
    have hne : (k != 0) = true := by simpa using hf
    clear hpre hpx HFS
    go_wp2_with fail
    refine HRF.out.mono ?_
    rintro e w2 ⟨rfl, hb2⟩
    have HB2 := hide (HB1.out.trans (hb2.mono HB1.out.size))
    clear hb2 HRF
    go_wp2_with fail
    refine (error_some k k w2 (HE.out.below HB2.out (Nat.le_refl _)) true (by simp)).mono ?_
    rintro e w3 ⟨rfl, hb3⟩
    have HB3 := hide (HB2.out.trans (hb3.mono HB2.out.size))
    clear hb3
    go_wp2_with fail
    go_ret
    exact ⟨rfl, HB3.out⟩
end Go.Proofs.YtndhmdengadmjaaDoor.RecW
