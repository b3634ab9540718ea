/- The walk of granaryref1.BatchOf. -/
import Derived.Test.YtndhmdengadmjaaDoorRefSeven
import Derived.Test.YtndhmdengadmjaaDoorRefWB
import Derived.Test.YtndhmdengadmjaaDoorRecWrite
set_option linter.unusedVariables false
namespace Go.Proofs.YtndhmdengadmjaaDoor.RecW
open Go.RowKit Rec

/-- A slice whose block is not v's own. -/
def Off (A : Option Addr) (v : Value) (w : World) : Prop := ∀ ad, A = some ad → ad.block < w.heap.size ∧ v.ownBlock ≠ some ad.block
section
variable {w w' : World} {A : Option Addr} {v v' : Value} {xs : List Value}
theorem Rd.off (h : Rd w A xs) (ho : Off A v w) (hg : w.grownBy w' v.ownBlock) : Rd w' A xs := by
  rcases h with h | ⟨b, off, rfl, h⟩
  · exact .inl h
  · obtain ⟨h1, h2⟩ := ho _ rfl
    exact .inr ⟨b, off, rfl, fun i u hu => (World.cell?_of_block (hg.block b h1 (fun e => h2 e.symm))).trans (h i u hu)⟩
theorem Off.step (ho : Off A v w) (hg : w.grownBy w' v.ownBlock) (hv : v'.ownBlock = v.ownBlock ∨ v'.ownBlock = some w.heap.size) : Off A v' w' := fun ad e => by
  obtain ⟨h1, h2⟩ := ho ad e
  refine ⟨Nat.lt_of_lt_of_le h1 hg.size, ?_⟩
  rcases hv with hv | hv
  · rw [hv]; exact h2
  · rw [hv]
    intro h
    injection h with h
    omega
theorem Off.of_own {base base' : Nat} {e e' : TypeId} {s s' m c k : Nat} {ys : List Value} (h : w.ownsRow base e s (.slice A m c) m xs) (hv : w'.ownsRow base' e' s' v k ys) (hw : w'.heap.size ≤ base) : Off A v w := fun ad he => by
  subst he
  obtain ⟨h1, h2⟩ := h.lt ad.block (by rcases h.2 with ⟨h, -⟩ | ⟨g, cap, cur, h, -⟩
                                       · cases h
                                       · injection h with h; injection h with h; subst h; rfl)
  refine ⟨h2, fun h3 => ?_⟩
  have := (hv.lt _ h3).2
  omega
theorem Off.size {w2 : World} (h : Off A v w) (hs : w.heap.size ≤ w2.heap.size) : Off A v w2 := fun ad e => ⟨Nat.lt_of_lt_of_le (h ad e).1 hs, (h ad e).2⟩
end

/-- append(x, y...) of two slices of bytes, x the call's own; which block is written. -/
theorem wpList_app3 (w : World) {ops : Array Oper} {rest : List Oper} {o : Oper} {a : Act} {Q : Exit → Act → World → Prop} (hgd : o.guard = none) (s x : Operand)
    (ho : o.op = .call { callee := .builtin .append, args := #[s, x], argTypes := #[23, 23] })
    (base : Nat) (v : Value) (n : Nat) (xs : List UInt8) (hs : a.eval s = v) (hown : w.ownsRow base 5 1 v n (u8v xs))
    (A : Option Addr) (m c : Nat) (ys : List UInt8) (hx : a.eval x = .slice A m c) (hm : m = ys.length) (hr : Rd w A (u8v ys)) (hb : n + m ≤ 140737488355328) (hbase : base ≤ w.heap.size)
    (h : ∀ (A' : Option Addr) (c' : Nat) (w' : World), w'.ownsRow base 5 1 (.slice A' (n + m) c') (n + m) (u8v (xs ++ ys)) → w.grownBy w' v.ownBlock → ((Value.slice A' (n + m) c').ownBlock = v.ownBlock ∨ (Value.slice A' (n + m) c').ownBlock = some w.heap.size) → Below base w w' → wpList Tryd.prog ops Q rest (a.put o.dst (.slice A' (n + m) c')) w') : wpList Tryd.prog ops Q (o :: rest) a w := by
  obtain ⟨i0, hi0, hz0, hz1, hz2⟩ := info_parts u8_info
  refine wpList_plain hgd fun K hK => ?_
  obtain ⟨v', w', hrun, h2, h3, h4⟩ := run_append_rd (P := Tryd.prog) w base 23 o.type 5 i0 _ 1 Tryd.underlying23 hi0 hz0 hz1 hz2 rfl v n (u8v xs) hown A m c (u8v ys) (by rw [u8v_length, hm]) hr (u8v_one ys) (by simp only [maxLen]; omega) (by omega) hbase
  rw [← u8v_append] at h2
  obtain ⟨A', c', rfl, -⟩ := own_form h2
  unfold Oper.wp execOp
  simp only [ho, resolve, invoke, builtin, Sem.run_bind, Sem.run_pure, Result.andThen_ok, List.map_toArray, List.map_cons, List.map_nil, hs, hx, hrun]
  exact hK _ _ (h A' c' w' h2 h3 h4 (below_own (Below.refl _ _) hown h3 hbase (Nat.le_refl _)))

theorem lowB_le4 (x : Nat) : lowB x 4 = le4 x := by
  simp [lowB, le4, List.range_succ]

def BatchPost (w : World) (es : List E3) (e : Ending) (w' : World) : Prop :=
  ∃ A c, e = .returned (.slice A (bat (natE es)).length c) ∧ w'.ownsRow w.heap.size 5 1 (.slice A (bat (natE es)).length c) (bat (natE es)).length (u8v (bat (natE es))) ∧ Below w.heap.size w w'
theorem ents_le : ∀ es : List E3, (∀ e ∈ es, okE3 e) → (Rec.ents (natE es)).length ≤ 27 * es.length
  | [], _ => Nat.zero_le _
  | e :: es, h => by
    have ih := ents_le es (fun x hx => h x (List.mem_cons_of_mem _ hx))
    obtain ⟨a, b, c⟩ := h e (List.mem_cons_self ..)
    unfold inN at a b c
    have h1 := num_len_le 9 e.1.toNat (by omega) (by omega)
    have h2 := num_len_le 9 e.2.1.toNat (by omega) (by omega)
    have h3 := num_len_le 9 e.2.2.toNat (by omega) (by omega)
    simp only [natE, List.map_cons, Rec.ents, List.length_append, ent, toN, List.length_cons] at ih ⊢
    omega

set_option maxRecDepth 20000 in
set_option maxHeartbeats 4000000 in
theorem batchOf_any (v : Value) (es : List E3) (w : World) (h : RdE w v es) (hok : ∀ e ∈ es, okE3 e) (hl : es.length ≤ 64) :
    Calls Tryd.prog 22 #[v] w (BatchPost w es) := by
  have HRE := hide h
  obtain ⟨Ae, ce, rfl, hcells⟩ := h
  have HOKE := hide hok
  obtain ⟨m, hm⟩ : ∃ m, m = es.length := ⟨_, rfl⟩
  have HM := hide hm
  rw [← hm] at hl HRE ⊢
  have HSV := hide (seven_any 8 m w (by omega) (by omega))
  have HELEN : Hid (∀ j, (Rec.ents (natE (es.take j))).length ≤ 1728) := hide (fun j => by
    have h1 := ents_le (es.take j) (fun e he => hok e (List.mem_of_mem_take he))
    have h2 : (es.take j).length ≤ 64 := by rw [List.length_take]; omega
    omega)
  have HML : Hid ((num m).length ≤ 9) := hide (num_len_le 9 _ (by omega) (by omega))
  clear hcells hok hm
  unfold SevPost at HSV
  go_enter Tryd.func22, Tryd.ntmps22
  go_wp2_with fail
  refine HSV.out.mono ?_
  rintro e w1 ⟨A1, c1, rfl, ho1, hb1⟩
  have HO1 := hide ho1
  have HB1 := hide hb1
  clear ho1 hb1 HSV
  go_wp2_with fail
  generalize hbs : w.heap.size = bs at *
  have HBS := hide hbs
  clear hbs
  go_loopw [3, 4] (fun o i wr => ∃ (j k : Nat) (ys : List UInt8), j ≤ m ∧ i = .int .i64 j ∧ Hid (wr.ownsRow bs 5 1 o k (u8v ys) ∧ k = ys.length ∧ ys = num m ++ Rec.ents (natE (es.take j)) ∧ Below bs w wr ∧ bs ≤ wr.heap.size)) (fun _ i _ => m - (intOf i).toNat)
  case atStart => exact ⟨0, _, num m, by omega, rfl, hide ⟨HO1.out, rfl, by simp [natE, Rec.ents], HB1.out, by have := HB1.out.size; have := HBS.out; omega⟩⟩
  case round =>
    obtain ⟨j, k, ys, hj, rfl, HI⟩ := hrel
    have HYS : Hid (k ≤ 2000) := hide (by rw [HI.out.2.1, HI.out.2.2.1, List.length_append]; have := HELEN.out j; have := HML.out; omega)
    obtain ⟨Ao, co, ho, -⟩ := own_form HI.out.1
    subst ho
    by_cases hlt2 : j < m
    · have hd2 : decide ((j : Int) < (m : Int)) = true := by simp; omega
      have hji : (j : Int) < (m : Int) := by omega
      obtain ⟨e, he⟩ : ∃ e, es[j]? = some e := ⟨es[j]'(by rw [← HM.out]; exact hlt2), List.getElem?_eq_getElem (by rw [← HM.out]; exact hlt2)⟩
      have HRW : Hid (RdE wr (.slice Ae m ce) es) := hide (HRE.out.below (by rw [HBS.out]; exact HI.out.2.2.2.1))
      obtain ⟨A9, c9, hA9, hcl⟩ := HRW.out
      obtain ⟨rfl, rfl⟩ : Ae = A9 ∧ ce = c9 := by injection hA9 with h1 h2 h3; exact ⟨h1, h3⟩
      clear hA9
      obtain ⟨be, oe, rfl, k1, k2, k3⟩ := hcl j e he
      have hok := HOKE.out e (List.mem_of_getElem? he)
      obtain ⟨ex, ey, ez⟩ := e
      unfold okE3 inN at hok
      simp only at hok k1 k2 k3
      obtain ⟨x, rfl⟩ : ∃ x : Nat, ex = x := ⟨ex.toNat, by omega⟩
      obtain ⟨y, rfl⟩ : ∃ y : Nat, ey = y := ⟨ey.toNat, by omega⟩
      obtain ⟨z, rfl⟩ : ∃ z : Nat, ez = z := ⟨ez.toNat, by omega⟩
      have HXYZ : Hid (x < 128 ^ 9 ∧ y < 128 ^ 9 ∧ z < 128 ^ 9) := hide ⟨by omega, by omega, by omega⟩
      have HJE : Hid (natE (es.take (j + 1)) = natE (es.take j) ++ [(x, y, z)]) := hide (by
        rw [List.take_add_one, he, natE, List.map_append]
        simp [natE, toN])
      have hbe := World.block_lt_of_cell? wr _ k1
      have HK := hide (And.intro k1 (And.intro k2 k3))
      have HS1 := hide (seven_any 8 x wr HXYZ.out.1 (by omega))
      unfold SevPost at HS1
      clear hcl hok he
      go_wp2_with fail
      refine HS1.out.mono ?_
      rintro e w5 ⟨A5, c5, rfl, ho5, hb5⟩
      have k1 := (hb5.cell hbe).trans HK.out.1
      have k2 := (hb5.cell hbe).trans HK.out.2.1
      have k3 := (hb5.cell hbe).trans HK.out.2.2
      have hbe5 : be < w5.heap.size := Nat.lt_of_lt_of_le hbe hb5.size
      have HOA := hide ho5
      have HOV := hide (own_below HI.out.1 hb5 (Nat.le_refl _))
      have HBB := hide (HI.out.2.2.2.1.trans (hb5.mono HI.out.2.2.2.2))
      have HSZ5 := hide hb5.size
      have HS2 := hide (seven_any 8 y w5 HXYZ.out.2.1 (by omega))
      unfold SevPost at HS2
      clear ho5 hb5 HS1
      go_wp2_with fail
      refine HS2.out.mono ?_
      rintro e w6 ⟨A6, c6, rfl, ho6, hb6⟩
      have k3 := (hb6.cell hbe5).trans k3
      have hbe6 : be < w6.heap.size := Nat.lt_of_lt_of_le hbe5 hb6.size
      have HOB := hide ho6
      have HOA := hide (own_below HOA.out hb6 (Nat.le_refl _))
      have HOV := hide (own_below HOV.out hb6 (Nat.le_refl _))
      have HSZ6 := hide hb6.size
      have HBB := hide (HBB.out.trans (hb6.mono (by have := HI.out.2.2.2.2; have := HSZ5.out; omega)))
      have HS3 := hide (seven_any 8 z w6 HXYZ.out.2.2 (by omega))
      unfold SevPost at HS3
      clear ho6 hb6 HS2 k1 k2
      go_wp2_with fail
      refine HS3.out.mono ?_
      rintro e w7 ⟨A7, c7, rfl, ho7, hb7⟩
      have HSZ7 := hide hb7.size
      have HOFA : Hid (Off A5 (.slice Ao k co) w7) := hide (Off.size (Off.of_own (w := w6) HOA.out HI.out.1 (Nat.le_refl _)) HSZ7.out)
      have HOFB : Hid (Off A6 (.slice Ao k co) w7) := hide (Off.size (Off.of_own (w := w6) HOB.out HI.out.1 HSZ5.out) HSZ7.out)
      have HOFC : Hid (Off A7 (.slice Ao k co) w7) := hide (Off.of_own ho7 HI.out.1 (Nat.le_trans HSZ5.out HSZ6.out))
      have HRA := hide (Rd.of_own (own_below HOA.out hb7 (Nat.le_refl _)))
      have HRB := hide (Rd.of_own (own_below HOB.out hb7 (Nat.le_refl _)))
      have HRC := hide (Rd.of_own ho7)
      have HOV := hide (own_below HOV.out hb7 (Nat.le_refl _))
      have HW7 : Hid (bs ≤ w7.heap.size) := hide (by have := HI.out.2.2.2.2; have := HSZ5.out; have := HSZ6.out; have := HSZ7.out; omega)
      have HBB := hide (HBB.out.trans (hb7.mono (by have := HI.out.2.2.2.2; have := HSZ5.out; have := HSZ6.out; omega)))
      have HLX : Hid ((num x).length ≤ 9) := hide (num_len_le 9 _ HXYZ.out.1 (by omega))
      have HLY : Hid ((num y).length ≤ 9) := hide (num_len_le 9 _ HXYZ.out.2.1 (by omega))
      have HLZ : Hid ((num z).length ≤ 9) := hide (num_len_le 9 _ HXYZ.out.2.2 (by omega))
      have HYE : Hid (((ys ++ num x) ++ num y) ++ num z = num m ++ Rec.ents (natE (es.take (j + 1)))) := hide (by
        rw [HJE.out, ents_append, HI.out.2.2.1]
        simp [Rec.ents, ent])
      clear ho7 hb7 HS3 k3 HOA HOB HSZ5 HSZ6 HSZ7 hbe hbe5 hbe6 HK
      have HKY := hide HI.out.2.1
      obtain ⟨nx, hnx⟩ : ∃ q, q = num x := ⟨_, rfl⟩
      obtain ⟨ny, hny⟩ : ∃ q, q = num y := ⟨_, rfl⟩
      obtain ⟨nz, hnz⟩ : ∃ q, q = num z := ⟨_, rfl⟩
      rw [← hnx] at HLX HRA HYE ⊢
      rw [← hny] at HLY HRB HYE ⊢
      rw [← hnz] at HLZ HRC HYE ⊢
      clear hnx hny hnz
      obtain ⟨lx, hlx⟩ : ∃ q, q = nx.length := ⟨_, rfl⟩
      obtain ⟨ly, hly⟩ : ∃ q, q = ny.length := ⟨_, rfl⟩
      obtain ⟨lz, hlz⟩ : ∃ q, q = nz.length := ⟨_, rfl⟩
      have HLLX := hide hlx
      have HLLY := hide hly
      have HLLZ := hide hlz
      rw [← hlx] at HLX ⊢
      rw [← hly] at HLY ⊢
      rw [← hlz] at HLZ ⊢
      clear hlx hly hlz
      go_wp2_with (first
        | (refine wpList_app3 _ rfl (.tmp 37) (.tmp 38) rfl bs _ k ys rfl HOV.out A5 lx c5 nx rfl HLLX.out HRA.out (by have := HYS.out; have := HLX.out; omega) HW7.out ?_
           intro A8 c8 w8 ho8 hg8 hv8 hb8
           have HO8 := hide ho8
           have HB8 := hide (HBB.out.trans hb8)
           have HW8 : Hid (bs ≤ w8.heap.size) := hide (by have := HW7.out; have := hb8.size; omega)
           have HRB8 := hide (Rd.off HRB.out HOFB.out hg8)
           have HRC8 := hide (Rd.off HRC.out HOFC.out hg8)
           have HOFC8 := hide (HOFC.out.step hg8 hv8)
           have HOFB8 := hide (HOFB.out.step hg8 hv8)
           clear ho8 hg8 hv8 hb8)
        | (refine wpList_app3 _ rfl (.tmp 40) (.tmp 41) rfl bs _ _ _ rfl HO8.out A6 ly c6 ny rfl HLLY.out HRB8.out (by have := HYS.out; have := HLX.out; have := HLY.out; omega) HW8.out ?_
           intro A9 c9 w9 ho9 hg9 hv9 hb9
           have HO9 := hide ho9
           have HB9 := hide (HB8.out.trans hb9)
           have HW9 : Hid (bs ≤ w9.heap.size) := hide (by have := HW8.out; have := hb9.size; omega)
           have HRC9 := hide (Rd.off HRC8.out HOFC8.out hg9)
           clear ho9 hg9 hv9 hb9)
        | (refine wpList_app3 _ rfl (.tmp 43) (.tmp 44) rfl bs _ _ _ rfl HO9.out A7 lz c7 nz rfl HLLZ.out HRC9.out (by have := HYS.out; have := HLX.out; have := HLY.out; have := HLZ.out; omega) HW9.out ?_
           intro A10 c10 w10 ho10 hg10 hv10 hb10
           have HO10 := hide ho10
           have HB10 := hide (HB9.out.trans hb10)
           have HW10 : Hid (bs ≤ w10.heap.size) := hide (by have := HW9.out; have := hb10.size; omega)
           clear ho10 hg10 hv10 hb10)
        | fail)
      go_roundw
      case rel =>
        refine ⟨j + 1, k + lx + ly + lz, ((ys ++ nx) ++ ny) ++ nz, by omega, by go_num, hide ⟨HO10.out, ?_, HYE.out, HB10.out, HW10.out⟩⟩
        rw [List.length_append, List.length_append, List.length_append, HI.out.2.1, HLLX.out, HLLY.out, HLLZ.out]
      case measure => simp [intOf]; omega
    · have hd2 : decide ((j : Int) < (m : Int)) = false := by simp; omega
      have HBODY : Hid (ys = body (natE es)) := hide (by
        have h1 : es.take j = es := List.take_of_length_le (by have := HM.out; omega)
        have h2 : (natE es).length = m := by rw [natE, List.length_map, HM.out]
        rw [HI.out.2.2.1, h1, body, h2])
      have HRO := hide (Rd.of_own HI.out.1)
      have HKY := hide HI.out.2.1
      obtain ⟨S, hS⟩ : ∃ S, S = (Crc.crc ys).toNat := ⟨_, rfl⟩
      have HSS := hide hS
      have hS32 : S < 4294967296 := by rw [hS]; exact (Crc.crc ys).isLt
      have HCRC := hide (RefW.refCrc_any Ao ys k co wr HKY.out (by have := HYS.out; omega) HRO.out)
      rw [← hS] at HCRC
      have HLF := hide (RefW.lowFirst_int (S : Int) 4 4 wr rfl (by omega) (by omega) (by omega))
      rw [Int.toNat_natCast, lowB_le4] at HLF
      clear hS
      go_wp2_with fail
      refine HCRC.out.mono ?_
      rintro e w5 ⟨rfl, rfl⟩
      go_wp2_with fail
      refine HLF.out.mono ?_
      rintro e w6 ⟨A6, c6, rfl, hc6, ho6, hb6⟩
      have HR6 := hide (Rd.of_own ho6)
      have HOV := hide (own_below HI.out.1 hb6 (Nat.le_refl _))
      have HBB := hide (HI.out.2.2.2.1.trans (hb6.mono HI.out.2.2.2.2))
      have HW6 : Hid (bs ≤ w6.heap.size) := hide (by have := HI.out.2.2.2.2; have := hb6.size; omega)
      clear ho6 hb6
      go_wp2_with (first
        | (refine wpList_app3 _ rfl (.tmp 51) (.tmp 52) rfl bs _ k ys rfl HOV.out A6 4 c6 (le4 S) rfl rfl HR6.out (by have := HYS.out; omega) HW6.out ?_
           intro A8 c8 w8 ho8 hg8 hv8 hb8
           have HO8 := hide ho8
           have HB8 := hide (HBB.out.trans hb8)
           clear ho8 hg8 hv8 hb8)
        | fail)
      go_ret
      have e : ys ++ le4 S = bat (natE es) := by rw [bat, ← HBODY.out, Rec.sum, HSS.out]
      have e2 : k + 4 = (bat (natE es)).length := by rw [← e, List.length_append, HKY.out]; rfl
      have ho := HO8.out
      rw [e, e2] at ho
      unfold BatchPost
      rw [← e2, HBS.out]
      rw [← e2] at ho
      exact ⟨_, _, rfl, ho, HB8.out⟩
end Go.Proofs.YtndhmdengadmjaaDoor.RecW
