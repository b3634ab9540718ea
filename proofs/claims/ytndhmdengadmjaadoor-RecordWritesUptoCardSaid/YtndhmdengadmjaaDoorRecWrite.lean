/- The walk of record.Write. -/
import Derived.Test.YtndhmdengadmjaaDoorRecFault
import Derived.Test.YtndhmdengadmjaaDoorRecNum
import Derived.Test.YtndhmdengadmjaaDoorCrc
import Derived.Deep.RegionHeld3
set_option linter.unusedVariables false
namespace Go.Proofs.YtndhmdengadmjaaDoor.RecW
open Go.RowKit Rec

def toN (e : E3) : Ent := (e.1.toNat, e.2.1.toNat, e.2.2.toNat)
def natE (es : List E3) : List Ent := es.map toN
def natL (ls : List (List E3)) : List (List Ent) := ls.map natE

theorem le4_cells (S : Nat) (h : S < 4294967296) : u8v (le4 S) = (#[.int .u8 ((S : Int) % 256), .int .u8 ((S : Int) / 256 % 256), .int .u8 ((S : Int) / 65536 % 256), .int .u8 ((S : Int) / 16777216)] : Array Value).toList := by
  simp only [le4, u8v, List.map_cons, List.map_nil, UInt8.toNat_ofNat']
  have e0 : ((S % 2 ^ 8 : Nat) : Int) = (S : Int) % 256 := by omega
  have e1 : ((S / 256 % 2 ^ 8 : Nat) : Int) = (S : Int) / 256 % 256 := by omega
  have e2 : ((S / 65536 % 2 ^ 8 : Nat) : Int) = (S : Int) / 65536 % 256 := by omega
  have e3 : ((S / 16777216 % 2 ^ 8 : Nat) : Int) = (S : Int) / 16777216 := by omega
  rw [e0, e1, e2, e3]
/-- What Write says. -/
def WritePost (w : World) (ls : List (List E3)) (e : Ending) (w' : World) : Prop :=
  Below w.heap.size w w' ∧ (((∀ es ∈ ls, faultOf es = 0) ∧ ∃ A c, e = .returned (.tuple #[.slice A (flat (natL ls)).length c, .nilIface]) ∧ w'.ownsRow w.heap.size 5 1 (.slice A (flat (natL ls)).length c) (flat (natL ls)).length (u8v (flat (natL ls)))) ∨
    (∃ pre es, (∀ x ∈ pre, faultOf x = 0) ∧ pre ++ [es] <+: ls ∧ faultOf es ≠ 0 ∧ e = .returned (.tuple #[.slice none 0 0, errR (faultOf es)])))

/-- Where Write stands. -/
structure WS (w W : World) (ls : List (List E3)) (i : Nat) (o : Value) : Prop where
  own : W.ownsRow w.heap.size 5 1 o (flat (natL (ls.take i))).length (u8v (flat (natL (ls.take i))))
  ok : ∀ es ∈ ls.take i, faultOf es = 0
  low : Below w.heap.size w W

set_option maxRecDepth 20000 in
set_option maxHeartbeats 8000000 in
theorem write_any (v : Value) (ls : List (List E3)) (w : World) (h : RdB w v ls) (hl : ls.length ≤ 1000000000) (hsz : ∀ i, (flat (natL (ls.take i))).length ≤ 100000000) : Calls Tryd.prog 6 #[v] w (WritePost w ls) := by
  obtain ⟨A, c, rfl, h⟩ := h
  have H := hide h
  obtain ⟨n, hn⟩ : ∃ n, n = ls.length := ⟨_, rfl⟩
  have HN := hide hn
  have HSZ := hide hsz
  rw [← hn] at hl ⊢
  clear h hn hsz
  go_enter Tryd.func6, Tryd.ntmps6
  go_wp2_with fail
  go_loopw [4, 14] (fun o i wr => ∃ i' : Nat, i' ≤ n ∧ i = .int .i64 i' ∧ Hid (WS w wr ls i' o)) (fun _ i _ => n - (intOf i).toNat)
  case atStart => exact ⟨0, by omega, rfl, hide ⟨⟨rfl, .inl ⟨rfl, rfl⟩⟩, (fun es he => by cases he), Below.refl _ _⟩⟩
  case round =>
    obtain ⟨i, hi, rfl, HS⟩ := hrel
    by_cases hlt : i < n
    · have hd1 : decide ((i : Int) < (n : Int)) = true := by simp; omega
      have hii : (i : Int) < (n : Int) := by omega
      obtain ⟨es, hes⟩ : ∃ es, ls[i]? = some es := ⟨ls[i]'(by rw [← HN.out]; exact hlt), List.getElem?_eq_getElem (by rw [← HN.out]; exact hlt)⟩
      obtain ⟨b, off, ve, rfl, a1, e1⟩ := H.out i es hes
      have x1 := (HS.out.low.cell (World.block_lt_of_cell? w _ a1)).trans a1
      have HV := hide (e1.below (HS.out.low.mono (Nat.le_refl _)))
      have HES := hide hes
      have HFT := hide (fault_any ve es wr HV.out)
      clear hes a1 e1
      go_wp2_with fail
      refine HFT.out.mono ?_
      rintro e w3 ⟨hb3, ⟨hf0, rfl⟩ | ⟨hf1, rfl⟩⟩
      · have HF0 := hide hf0
        have HB3 := hide hb3
        obtain ⟨Ae, ce, rfl, hcells⟩ := HV.out
        have hm64 : es.length ≤ 64 := by
          unfold faultOf at hf0
          by_cases h : 64 < es.length
          · rw [if_pos h] at hf0; cases hf0
          · omega
        have HOKE : Hid (∀ e ∈ es, okE3 e) := hide (by
          unfold faultOf at hf0
          rw [if_neg (by omega)] at hf0
          by_cases h : ∀ e ∈ es, okE3 e
          · exact h
          · rw [if_neg h] at hf0; cases hf0)
        have HC := hide hcells
        obtain ⟨m, hm⟩ : ∃ m, m = es.length := ⟨_, rfl⟩
        have HM := hide hm
        rw [← hm] at hm64 ⊢
        rw [← hm] at x1
        have HNUM := hide (number_any w3.heap.size (.slice none 0 0) 0 [] m w3 ⟨rfl, .inl ⟨rfl, rfl⟩⟩ (by omega) (by omega) (Nat.le_refl _))
        clear hf0 hb3 hcells hm
        go_wp2_with fail
        refine HNUM.out.mono ?_
        rintro e w4 ⟨A4, c4, rfl, ho4, hf4⟩
        rw [Nat.zero_add, List.nil_append] at ho4
        have HO4 := hide ho4
        have HF4 := hide hf4
        clear ho4 hf4 HNUM
        go_wp2_with fail
        generalize hbs : w3.heap.size = bs at *
        have HBS := hide hbs
        clear hbs
        go_loopw [8, 28] (fun bv j wq => ∃ (j' k : Nat) (ys : List UInt8), j' ≤ m ∧ j = .int .i64 j' ∧ Hid (wq.ownsRow bs 5 1 bv k (u8v ys) ∧ k = ys.length ∧ ys = num m ++ Rec.ents (natE (es.take j')) ∧ Below bs w3 wq)) (fun _ j _ => m - (intOf j).toNat)
        case atStart => exact ⟨0, _, num m, by omega, rfl, hide ⟨HO4.out, rfl, by simp [natE, Rec.ents], HF4.out.low⟩⟩
        case round =>
          obtain ⟨j, k, ys, hj, rfl, HI⟩ := hrel
          by_cases hlt2 : j < m
          · have hd2 : decide ((j : Int) < (m : Int)) = true := by simp; omega
            have hji : (j : Int) < (m : Int) := by omega
            obtain ⟨e, he⟩ : ∃ e, es[j]? = some e := ⟨es[j]'(by rw [← HM.out]; exact hlt2), List.getElem?_eq_getElem (by rw [← HM.out]; exact hlt2)⟩
            have hre : RdE wr (.slice Ae es.length ce) es := (HV.out.below HB3.out).below (HBS.out ▸ HI.out.2.2.2)
            obtain ⟨A9, c9, hA9, hcl⟩ := hre
            obtain ⟨rfl, rfl⟩ : Ae = A9 ∧ ce = c9 := by injection hA9 with h1 h2 h3; exact ⟨h1, h3⟩
            clear hA9
            obtain ⟨be, oe, rfl, k1, k2, k3⟩ := hcl j e he
            have hok := HOKE.out e (List.mem_of_getElem? he)
            obtain ⟨ex, ey, ez⟩ := e
            unfold okE3 inN at hok
            simp only at hok k1 k2 k3
            obtain ⟨x, rfl⟩ : ∃ x : Nat, ex = x := ⟨ex.toNat, by omega⟩
            obtain ⟨y, rfl⟩ : ∃ y : Nat, ey = y := ⟨ey.toNat, by omega⟩
            obtain ⟨z, rfl⟩ : ∃ z : Nat, ez = z := ⟨ez.toNat, by omega⟩
            have HXYZ : Hid (x < 128 ^ 9 ∧ y < 128 ^ 9 ∧ z < 128 ^ 9) := hide ⟨by omega, by omega, by omega⟩
            have HYS : Hid (ys.length ≤ 100000000) := hide (by
              have h1 := HSZ.out (i + 1)
              have h2 : ls.take (i + 1) = ls.take i ++ [es] := by rw [List.take_add_one, HES.out]; rfl
              rw [h2] at h1
              have h3 : flat (natL (ls.take i ++ [es])) = flat (natL (ls.take i)) ++ bat (natE es) := by simp [natL, flat_append, flat]
              rw [h3, List.length_append] at h1
              have h4 : natE es = natE (es.take j) ++ natE (es.drop j) := by rw [natE, natE, natE, ← List.map_append, List.take_append_drop]
              have h5 : (bat (natE es)).length = (num m).length + (Rec.ents (natE (es.take j))).length + (Rec.ents (natE (es.drop j))).length + 4 := by
                have h6 : (Rec.ents (natE es)).length = (Rec.ents (natE (es.take j))).length + (Rec.ents (natE (es.drop j))).length := by rw [h4, ents_append, List.length_append]
                have h7 : (natE es).length = m := by rw [natE, List.length_map, HM.out]
                rw [bat, List.length_append, sum_len, body, List.length_append, h7, h6]
                omega
              rw [HI.out.2.2.1, List.length_append]
              omega)
            have HJE : Hid (natE (es.take (j + 1)) = natE (es.take j) ++ [(x, y, z)]) := hide (by
              rw [List.take_add_one, he, natE, List.map_append]
              simp [natE, toN])
            have hbw : bs ≤ wr.heap.size := by have := HI.out.2.2.2.size; have := HBS.out; omega
            have K0 := Bk.new wr 60 #[.int .i64 (x : Int), .int .i64 (y : Int), .int .i64 (z : Int)]
            have HK0 := hide K0.drew
            have HOW := hide ((HI.out.1.alloc (.cells #[.int .i64 (x : Int), .int .i64 (y : Int), .int .i64 (z : Int)] 60)))
            have HLB : Hid (bs ≤ (wr.alloc (.cells #[.int .i64 (x : Int), .int .i64 (y : Int), .int .i64 (z : Int)] 60)).heap.size) := hide (by simp; omega)
            have HBA : Hid (Below bs w3 (wr.alloc (.cells #[.int .i64 (x : Int), .int .i64 (y : Int), .int .i64 (z : Int)] 60))) := hide (HI.out.2.2.2.trans ((Below.refl _ _).alloc hbw _))
            clear hcl hok he hbw K0
            go_wp2_with fail
            generalize hW2 : wr.alloc (.cells #[.int .i64 (x : Int), .int .i64 (y : Int), .int .i64 (z : Int)] 60) = W2 at *
            clear hW2
            generalize wr.heap.size = gb at *
            have y1 := HK0.out.at_ (i := 0) (u := .int .i64 (x : Int)) rfl
            have y2 := HK0.out.at_ (i := 1) (u := .int .i64 (y : Int)) rfl
            have y3 := HK0.out.at_ (i := 2) (u := .int .i64 (z : Int)) rfl
            have HN1 := hide (number_any bs u8 k ys x W2.drew (by exact HOW.out) HXYZ.out.1 (by have := HI.out.2.1; have := HYS.out; omega) HLB.out)
            have HKX := HK0
            go_region_held3 (fun w' => w'.cell? ⟨gb, 0, none⟩ = some (.int .i64 (x : Int)) ∧ w'.cell? ⟨gb, 1, none⟩ = some (.int .i64 (y : Int)) ∧ w'.cell? ⟨gb, 2, none⟩ = some (.int .i64 (z : Int)))
              (first | exact ⟨y1, y2, y3⟩ | exact ⟨s1, s2, s3⟩ | exact ⟨t1, t2, t3⟩ | exact ⟨r1, r2, r3⟩)
              (first
                | (go_at_call 19
                   with_reducible refine HN1.out.mono ?_
                   rintro e5 W5 ⟨A5, c5, rfl, ho5, hf5⟩
                   have hk5 := hf5.bk HK0.out (by simp only [u8K]; decide)
                   have s1 := hk5.at_ (i := 0) (u := .int .i64 (x : Int)) rfl
                   have s2 := hk5.at_ (i := 1) (u := .int .i64 (y : Int)) rfl
                   have s3 := hk5.at_ (i := 2) (u := .int .i64 (z : Int)) rfl
                   have HK5 := hide hk5
                   have HF5 := hide hf5
                   have HN2 := hide (number_any bs _ _ _ y W5 ho5 HXYZ.out.2.1 (by have := HI.out.2.1; have := HYS.out; have := num_len_le 9 x HXYZ.out.1 (by omega); omega) (Nat.le_trans HLB.out hf5.size))
                   clear ho5 hf5 hk5)
                | (go_at_call 19
                   with_reducible refine HN2.out.mono ?_
                   rintro e6 W6 ⟨A6, c6, rfl, ho6, hf6⟩
                   have hk6 := hf6.bk HK5.out (by simp only [u8K]; decide)
                   have t1 := hk6.at_ (i := 0) (u := .int .i64 (x : Int)) rfl
                   have t2 := hk6.at_ (i := 1) (u := .int .i64 (y : Int)) rfl
                   have t3 := hk6.at_ (i := 2) (u := .int .i64 (z : Int)) rfl
                   have HK6 := hide hk6
                   have HF6 := hide hf6
                   have HN3 := hide (number_any bs _ _ _ z W6 ho6 HXYZ.out.2.2 (by have := HI.out.2.1; have := HYS.out; have := num_len_le 9 x HXYZ.out.1 (by omega); have := num_len_le 9 y HXYZ.out.2.1 (by omega); omega) (Nat.le_trans (Nat.le_trans HLB.out HF5.out.size) hf6.size))
                   clear ho6 hf6 hk6)
                | (go_at_call 19
                   with_reducible refine HN3.out.mono ?_
                   rintro e7 W7 ⟨A7, c7, rfl, ho7, hf7⟩
                   have hk7 := hf7.bk HK6.out (by simp only [u8K]; decide)
                   have r1 := hk7.at_ (i := 0) (u := .int .i64 (x : Int)) rfl
                   have r2 := hk7.at_ (i := 1) (u := .int .i64 (y : Int)) rfl
                   have r3 := hk7.at_ (i := 2) (u := .int .i64 (z : Int)) rfl
                   have HO7 := hide ho7
                   have HF7 := hide hf7
                   clear ho7 hf7 hk7))
            all_goals go_wp2_with fail
            all_goals go_roundw
            all_goals try (simp [intOf]; omega; done)
            all_goals (
              have HYE : ((ys ++ num x) ++ num y) ++ num z = num m ++ Rec.ents (natE (es.take (j + 1))) := by
                rw [HJE.out, ents_append, HI.out.2.2.1]
                simp [Rec.ents, ent]
              refine ⟨j + 1, k + (num x).length + (num y).length + (num z).length, ((ys ++ num x) ++ num y) ++ num z, by omega, by go_num, hide ⟨HO7.out, ?_, HYE, ((HBA.out.drew.trans HF5.out.low).trans HF6.out.low).trans HF7.out.low⟩⟩
              rw [List.length_append, List.length_append, List.length_append, HI.out.2.1])
          · have hd2 : decide ((j : Int) < (m : Int)) = false := by simp; omega
            have hjm : j = m := by omega
            have HBODY : Hid (ys = body (natE es)) := hide (by
              have h1 : es.take j = es := List.take_of_length_le (by have := HM.out; omega)
              have h2 : (natE es).length = m := by rw [natE, List.length_map, HM.out]
              rw [HI.out.2.2.1, h1, body, h2])
            have HROOM : Hid ((flat (natL (ls.take i))).length + ys.length + 4 ≤ 100000000) := hide (by
              have h1 := HSZ.out (i + 1)
              have h2 : ls.take (i + 1) = ls.take i ++ [es] := by rw [List.take_add_one, HES.out]; rfl
              rw [h2] at h1
              have h3 : flat (natL (ls.take i ++ [es])) = flat (natL (ls.take i)) ++ bat (natE es) := by simp [natL, flat_append, flat]
              rw [h3, List.length_append, bat, List.length_append, sum_len, ← HBODY.out] at h1
              omega)
            obtain ⟨A8, c8, hv8, -, -, hrd8, -, -⟩ := own_form HI.out.1
            subst hv8
            have HRB := hide hrd8
            have HKL := hide HI.out.2.1
            obtain ⟨S, hS⟩ : ∃ S, S = (Crc.crc ys).toNat := ⟨_, rfl⟩
            have HSS := hide hS
            have hS32 : S < 4294967296 := by rw [hS]; exact (Crc.crc ys).isLt
            have HCRC := hide (CrcW.crc_any A8 ys k c8 wr HKL.out (by have := HKL.out; have := HROOM.out; omega) HRB.out)
            rw [← hS] at HCRC
            have hw3 : Below bs w3 wr := HI.out.2.2.2
            have HLOW := hide ((HS.out.low.trans (HB3.out.mono HS.out.low.size)).trans (hw3.mono (by have := HBS.out; have := HS.out.low.size; have := HB3.out.size; omega)))
            have HOUT := hide (own_below (own_below HS.out.own HB3.out (Nat.le_refl _)) hw3 (Nat.le_of_eq HBS.out))
            have HSZW : Hid (w.heap.size ≤ wr.heap.size) := hide HLOW.out.size
            obtain ⟨q0, hq0⟩ : ∃ q, q = UInt8.ofNat S := ⟨_, rfl⟩
            clear hjm hrd8 hS hw3
            go_wp2_with (first
              | (go_at_call 20
                 refine HCRC.out.mono ?_
                 rintro e w5 ⟨rfl, rfl⟩)
              | (refine wpList_appF _ rfl (.tmp 45) (.tmp 46) rfl w.heap.size u4 (flat (natL (ls.take i))).length (flat (natL (ls.take i))) rfl HOUT.out A8 k c8 ys rfl HKL.out HRB.out (by have := HKL.out; have := HROOM.out; omega) HSZW.out ?_
                 intro A10 c10 w10 hc10 ho10 hf10
                 have HF10 := hide hf10
                 have HRD4 : Hid (Rd (w10.alloc (.cells #[.int .u8 ((S : Int) % 256), .int .u8 ((S : Int) / 256 % 256), .int .u8 ((S : Int) / 65536 % 256), .int .u8 ((S : Int) / 16777216)] 5)) (some ⟨w10.heap.size, 0, none⟩) (u8v (le4 S))) := hide (Rd.new w10 _ _ _ _ _ rfl (le4_cells S hS32))
                 have HO10 := hide (ho10.alloc (.cells #[.int .u8 ((S : Int) % 256), .int .u8 ((S : Int) / 256 % 256), .int .u8 ((S : Int) / 65536 % 256), .int .u8 ((S : Int) / 16777216)] 5))
                 have HS10 : Hid (w.heap.size ≤ (w10.alloc (.cells #[.int .u8 ((S : Int) % 256), .int .u8 ((S : Int) / 256 % 256), .int .u8 ((S : Int) / 65536 % 256), .int .u8 ((S : Int) / 16777216)] 5)).heap.size) := hide (by have := HSZW.out; have := hf10.size; simp; omega)
                 have HL10 := hide ((HLOW.out.trans hf10.low).trans ((Below.refl _ _).alloc (Nat.le_trans HSZW.out hf10.size) (.cells #[.int .u8 ((S : Int) % 256), .int .u8 ((S : Int) / 256 % 256), .int .u8 ((S : Int) / 65536 % 256), .int .u8 ((S : Int) / 16777216)] 5)))
                 clear ho10 hf10)
              | (refine wpList_appF _ rfl (.tmp 48) (.tmp 60) rfl w.heap.size _ ((flat (natL (ls.take i))).length + k) (flat (natL (ls.take i)) ++ ys) rfl HO10.out (some ⟨w10.heap.size, 0, none⟩) 4 4 (le4 S) rfl rfl HRD4.out (by have := HKL.out; have := HROOM.out; omega) HS10.out ?_
                 intro A11 c11 w11 hc11 ho11 hf11
                 have HO11 := hide ho11
                 have HF11 := hide hf11
                 clear ho11 hf11)
              | fail)
            all_goals go_roundw
            all_goals try (simp [intOf]; omega; done)
            all_goals (
              have HFL : flat (natL (ls.take (i + 1))) = (flat (natL (ls.take i)) ++ ys) ++ le4 S := by
                have h2 : ls.take (i + 1) = ls.take i ++ [es] := by rw [List.take_add_one, HES.out]; rfl
                have h3 : flat (natL (ls.take i ++ [es])) = flat (natL (ls.take i)) ++ bat (natE es) := by simp [natL, flat_append, flat]
                rw [h2, h3, bat, ← HBODY.out, sum, ← HSS.out, List.append_assoc]
              have HFN : (flat (natL (ls.take i))).length + k + 4 = (flat (natL (ls.take (i + 1)))).length := by
                rw [HFL, List.length_append, List.length_append, HKL.out]
                rfl
              refine ⟨i + 1, by omega, by go_num, hide ⟨?_, ?_, HL10.out.trans HF11.out.low⟩⟩
              · have h := HO11.out
                rw [← HFL, HFN] at h
                rw [HFN]
                exact h
              · intro q hq
                have h2 : ls.take (i + 1) = ls.take i ++ [es] := by rw [List.take_add_one, HES.out]; rfl
                rw [h2] at hq
                rcases List.mem_append.1 hq with hq | hq
                · exact HS.out.ok q hq
                · have : q = es := by simpa using hq
                  rw [this]; exact HF0.out)
      · have HF1 := hide hf1
        have HB3 := hide hb3
        clear hf1 hb3
        unfold errR
        go_wp2_with fail
        go_ret2
        refine ⟨HS.out.low.trans (HB3.out.mono HS.out.low.size), .inr ⟨ls.take i, es, HS.out.ok, ?_, HF1.out, rfl⟩⟩
        have : ls.take i ++ [es] = ls.take (i + 1) := by rw [List.take_add_one, HES.out]; rfl
        rw [this]
        exact List.take_prefix _ _
    · have hd1 : decide ((i : Int) < (n : Int)) = false := by simp; omega
      have HT : Hid (ls.take i = ls) := hide (List.take_of_length_le (by have := HN.out; omega))
      obtain ⟨Ao, co, ho, -⟩ := own_form HS.out.own
      subst ho
      go_wp2_with fail
      go_ret2
      have hok := HS.out.ok
      rw [HT.out] at hok
      have hown := HS.out.own
      rw [HT.out] at hown
      exact ⟨HS.out.low, .inl ⟨hok, Ao, co, by simp only [HT.out]; rfl, hown⟩⟩
end Go.Proofs.YtndhmdengadmjaaDoor.RecW
