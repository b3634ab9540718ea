/- The walk of granaryref1.PlanOf. -/
import Derived.Test.YtndiionpijjdbaaDoorRefSwP
set_option linter.unusedVariables false
namespace Go.Proofs.YtndiionpijjdbaaDoor.SwW
open Go.RowKit I64 Stab

theorem wpList_append_blks (w : World) {ops : Array Oper} {rest : List Oper} {o : Oper} {a : Act} {Q : Exit → Act → World → Prop} (hgd : o.guard = none) (s x : Operand)
    (ho : o.op = .call { callee := .builtin .append, args := #[s, x], argTypes := #[22, 22] })
    (base : Nat) (v : Value) (hs : a.eval s = v) (hown : w.ownsRow base 41 3 v 0 []) (A : Option Addr) (n c : Nat) (hx : a.eval x = .slice A n c) (S : Nat → Blk) (T : Nat) (hr : RdB w A n S T) (hn : n * 24 ≤ 140737488351232) (hbase : base ≤ w.heap.size)
    (h : ∀ (D : Option Addr) (c' : Nat) (w' : World), n ≤ c' → CpB w' base n c' D S → Below base w w' → wpList Tryd.prog ops Q rest (a.put o.dst (.slice D n c')) w') : wpList Tryd.prog ops Q (o :: rest) a w := by
  refine wpList_plain hgd fun K hK => ?_
  obtain ⟨D, c', w', hrun, hc', h2, h3⟩ := run_append_blks w base o.type v hown A n c S T hr hn hbase
  unfold Oper.wp execOp
  simp only [ho, resolve, invoke, builtin, Sem.run_bind, Sem.run_pure, Result.andThen_ok, List.map_toArray, List.map_cons, List.map_nil, hs, hx, hrun]
  exact hK _ _ (h D c' w' hc' h2 h3)
theorem own3_empty (w : World) (e : TypeId) : (w.alloc (.cells #[] e)).ownsRow w.heap.size e 3 (.slice (some ⟨w.heap.size, 0, none⟩) 0 0) 0 [] :=
  ⟨rfl, .inr ⟨w.heap.size, 0, #[], rfl, Nat.le_refl _, heap_alloc_new w _, Nat.le_refl _, by simp only [maxLen]; omega, rfl, rfl⟩⟩
def lenV : Value → Nat
  | .slice _ n _ => n
  | _ => 0
theorem first_mem {S : Nat → Blk} {pages : Int} {n : Nat} {z : Int} (h : First S pages n z) : z ∈ elig S pages n := h.1
theorem cp_keep {w w' : World} {base n c B : Nat} {S : Nat → Blk} {D : Option Addr} (h : CpB w base n c D S) (hb : Below B w w') (hD : ∀ g, D = some ⟨g, 0, none⟩ → g < B) : CpB w' base n c D S := by
  refine ⟨h.1, h.2.imp id ?_⟩
  rintro ⟨g, cap, cur, e1, e2, e3, e4⟩
  injection e1 with f1 f2 f3
  exact ⟨g, cap, cur, by rw [f1, f3], e2, (hb.block g (hD g f1)).trans e3, e4⟩
/-- A store into the copied blocks leaves a row of ints. -/
theorem cp_own {w : World} {base n c b2 m i : Nat} {g : Nat} {S : Nat → Blk} {v : Value} {xs : List Value} {u : Value} {D : Option Addr} (h : CpB w base n c D S) (ho : w.ownsRow b2 3 1 v m xs) (hD : D = some ⟨g, 0, none⟩) (hn : 0 < n) :
    (w.setCell ⟨g, i, none⟩ u).ownsRow b2 3 1 v m xs := by
  subst hD
  rcases h.2 with ⟨hv, h0⟩ | ⟨g', cap, cur, hv, hb, hg, -⟩
  · omega
  · injection hv with hA
    injection hA with hA
    injection hA with hA
    subst hA
    refine ⟨ho.1, ho.2.imp id ?_⟩
    rintro ⟨q, cap', cur', e1, e2, e3, e4⟩
    refine ⟨q, cap', cur', e1, e2, ?_, e4⟩
    rw [Below.heap_setCell _ _ _ _ (show q ≠ g from ?_)]
    · exact e3
    · rintro rfl
      rw [hg] at e3
      injection e3 with e3
      injection e3 with _ e3
      exact absurd e3 (by decide)
/-- What PlanOf says. -/
def PlO (S : Nat → Blk) (pages need : Int) (Z : List Int) (e : Ending) (w' : World) : Prop :=
  ((∀ j, j ≤ Z.length → wonF S pages Z j < need) ∧ e = .returned (.tuple #[.slice none 0 0, .bool false])) ∨
  (∃ (k : Nat) (A' : Option Addr) (c' : Nat), k ≤ Z.length ∧ need ≤ wonF S pages Z k ∧ (∀ j, j < k → wonF S pages Z j < need) ∧ k ≤ c' ∧ Rd w' A' (i64v (Z.take k)) ∧ e = .returned (.tuple #[.slice A' k c', .bool true]))
attribute [local irreducible] flt okB elig Srt ckey First flatB chooF wonF useS
set_option maxRecDepth 20000 in
set_option maxHeartbeats 8000000 in
theorem planOf_any (A : Option Addr) (n c : Nat) (S : Nat → Blk) (T : Nat) (pages need : Int) (w : World) (hr : RdB w A n S T) (hT : T ≤ w.heap.size) (hn : n * 24 ≤ 140737488351232) (hf : flt S n pages (decide (need < 0)) = 0) (Z : List Int) (hp : Z.Perm (elig S pages n)) (hs : Srt (ckey S) Z) :
    Calls Tryd.prog 8 #[.slice A n c, .int .i64 pages, .int .i64 need] w fun e w' => PlO S pages need Z e w' ∧ Below w.heap.size w w' := by
  have HR := hide hr
  have HF := hide (flt_zero hf)
  have HP := hide hp
  have HS := hide hs
  have HOK : Hid (∀ i, i < n → 0 ≤ (S i).lv ∧ (S i).lv ≤ pages) := hide (fun i hi => by have := HF.out.2.2.2.2 i hi; unfold okB at this; exact ⟨this.1, this.2.1⟩)
  have HMEM : Hid (∀ j, j < Z.length → ∃ i : Nat, Z.getD j 0 = i ∧ i < n) := hide (fun j hj => by
    obtain ⟨i, h1, h2, -⟩ := elig_mem.1 (HP.out.mem_iff.1 (getD_mem Z j hj))
    exact ⟨i, h1, h2⟩)
  have HBND : Hid (∀ j, j ≤ Z.length → 0 ≤ wonF S pages Z j ∧ wonF S pages Z j ≤ 4096 * j) := hide (fun j hj => wonF_bound S pages Z HF.out.2.2.1 j (fun q hq => by
    obtain ⟨i, h1, h2⟩ := HMEM.out q (by omega)
    rw [h1, Int.toNat_natCast]
    exact HOK.out i h2))
  have HWS : Hid (∀ j, wonF S pages Z (j + 1) = wonF S pages Z j + (pages - (S (Z.getD j 0).toNat).lv)) := hide (fun j => by conv => lhs; unfold wonF)
  have HW0 : Hid (wonF S pages Z 0 = 0) := hide (by unfold wonF; rfl)
  have hL64 : Z.length ≤ 64 := by
    rw [hp.length_eq]
    exact Nat.le_trans (elig_len S pages n) HF.out.1
  obtain ⟨L, hL⟩ : ∃ L, L = Z.length := ⟨_, rfl⟩
  have HL := hide hL
  rw [← hL] at hL64
  have hpg := HF.out.2.1
  have hpg2 := HF.out.2.2.1
  have hn63 : n ≤ 9223372036854775807 := by omega
  have HRA : Hid (RdB (w.alloc (.cells #[] 41)) A n S T) := hide (HR.out.below ((Below.refl w.heap.size w).alloc (Nat.le_refl _) _) hT)
  clear hr hf hp hs hL hT
  go_enter Tryd.func8, Tryd.ntmps8
  go_wp2_with (first
    | (at_builtin
       refine wpList_append_blks _ rfl (.tmp 12) (.tmp 13) rfl w.heap.size _ rfl (own3_empty w _) A n c rfl S T HRA.out hn (by simp) ?_
       intro D c1 w1 hc1 ho1 hb1
       have HB1 := hide (((Below.refl w.heap.size w).alloc (Nat.le_refl _) (.cells #[] 41)).trans hb1)
       have HO1 : Hid (CpB w1 w.heap.size n c1 D (useS S Z 0)) := hide (by rw [useS_zero]; exact ho1)
       have HG : Hid (∀ g, D = some ⟨g, 0, none⟩ → g < w1.heap.size) := hide (fun g hg => (ho1.lt g (by rw [hg]; rfl)).2)
       clear ho1 hb1))
  go_loopw [9, 10] (fun ou wo wr => ∃ (j : Nat) (D' : Option Addr) (cc : Nat), j ≤ L ∧ ou = .slice D' j cc ∧ j ≤ cc ∧ wo = .int .i64 (wonF S pages Z j) ∧ Hid (∀ q, q < j → wonF S pages Z q < need) ∧ Hid (CpB wr w.heap.size n c1 D (useS S Z j)) ∧
    Hid (wr.ownsRow w1.heap.size 3 1 (.slice D' j cc) j (i64v (Z.take j))) ∧ Hid (Below w.heap.size w wr) ∧ Hid (w1.heap.size ≤ wr.heap.size)) (fun ou _ _ => L - lenV ou)
  case atStart => exact ⟨0, none, 0, by omega, rfl, Nat.le_refl _, by rw [HW0.out], hide (fun q hq => absurd hq (Nat.not_lt_zero q)), HO1, hide (World.ownsRow_nil _ _ _ _), HB1, hide (Nat.le_refl _)⟩
  case round =>
    obtain ⟨j, D', cc, hj, rfl, hjc, rfl, HK, HC, HO, HB, HZ1⟩ := hrel
    have hbw := HBND.out j (by rw [← HL.out]; exact hj)
    obtain ⟨wo, hwo⟩ : ∃ wo, wo = wonF S pages Z j := ⟨_, rfl⟩
    have HWO := hide hwo
    rw [← hwo] at hbw ⊢
    clear hwo
    by_cases hlt : wo < need
    · have e1 : decide (wo < need) = true := decide_eq_true hlt
      have HK2 : Hid (∀ q, q < j + 1 → wonF S pages Z q < need) := hide (fun q hq => by
        rcases Nat.lt_or_ge q j with h | h
        · exact HK.out q h
        · rw [show q = j from by omega, ← HWO.out]; exact hlt)
      clear hlt
      go_wp2_with fail
      refine (chooseOf_any D n c1 (useS S Z j) wr.heap.size pages wr HC.out.rd hn63).mono ?_
      rintro e w2 ⟨rfl, d, rfl⟩
      have hb := chooF_bound (useS S Z j) pages n
      have HCF := hide (chooF_first (S := useS S Z j) (pages := pages) (n := n) (fun i hi => by rw [useS_lv.1]; exact (HOK.out i hi).2) n (Nat.le_refl _))
      have HC2 : Hid (CpB (wr.drewN d) w.heap.size n c1 D (useS S Z j)) := hide HC.out
      have HZ2 : Hid (w1.heap.size ≤ (wr.drewN d).heap.size) := hide HZ1.out
      have HO2 : Hid ((wr.drewN d).ownsRow w1.heap.size 3 1 (.slice D' j cc) j (i64v (Z.take j))) := hide HO.out
      have HBD := hide (below_drewN HB.out d)
      obtain ⟨W2, hW2⟩ : ∃ W2, W2 = wr.drewN d := ⟨_, rfl⟩
      rw [← hW2] at HC2 HO2 HBD HZ2 ⊢
      clear hW2
      obtain ⟨r, hr⟩ : ∃ r, r = chooF (useS S Z j) pages n := ⟨_, rfl⟩
      rw [← hr] at hb HCF ⊢
      clear hr
      by_cases hr0 : r < 0
      · have q1 : decide (r < 0) = true := decide_eq_true hr0
        have HALL : Hid (∀ q, q ≤ Z.length → wonF S pages Z q < need) := hide (by
          rcases HCF.out with ⟨-, h⟩ | ⟨h, -⟩
          · have hjl : Z.length ≤ j := by
              rcases Nat.lt_or_ge j Z.length with h' | h'
              · have := first_mem (use_first HP.out HS.out h')
                rw [h] at this
                cases this
              · exact h'
            exact fun q hq => HK2.out q (by omega)
          · omega)
        clear hr0
        go_wp2_with fail
        go_ret2
        exact ⟨.inl ⟨HALL.out, rfl⟩, HBD.out⟩
      · have q1 : decide (r < 0) = false := decide_eq_false hr0
        have hjl : j < Z.length := by
          rcases Nat.lt_or_ge j Z.length with h' | h'
          · exact h'
          · exfalso
            rcases HCF.out with ⟨h, -⟩ | ⟨-, h⟩
            · exact hr0 h
            · have := first_mem h
              rw [use_none HP.out h'] at this
              cases this
        have hrz : r = Z.getD j 0 := by
          rcases HCF.out with ⟨h, -⟩ | ⟨-, h⟩
          · exact absurd h hr0
          · exact first_one h (use_first HP.out HS.out hjl)
        obtain ⟨i, hi1, hi2⟩ := HMEM.out j hjl
        rw [hi1] at hrz
        have hi1' := hi1
        have HST := hide (useS_step (S := S) hjl hi1)
        have HTK : Hid (Z.take (j + 1) = Z.take j ++ [(i : Int)]) := hide (by rw [List.take_add_one, List.getElem?_eq_getElem hjl, Option.toList_some, ← hi1', List.getD_eq_getElem?_getD, List.getElem?_eq_getElem hjl]; rfl)
        have HWN : Hid (wonF S pages Z (j + 1) = wo + (pages - (S i).lv)) := hide (by rw [HWS.out, hi1, Int.toNat_natCast, ← HWO.out])
        have hjL : j + 1 ≤ L := by rw [HL.out]; omega
        subst hrz
        obtain ⟨g, rfl, hg, hgs, fz, c0, cl, hcs⟩ := HC2.out.step hi2 HST.out.1 HST.out.2
        rw [useS_lv.1] at cl
        have HCS := hide hcs
        have hlb := HOK.out i hi2
        obtain ⟨lv, hlv⟩ : ∃ lv, lv = (S i).lv := ⟨_, rfl⟩
        rw [← hlv] at cl hlb HWN
        have hin1 : (i : Int) < (n : Int) := by omega
        have hin0 : (0 : Int) ≤ (i : Int) := by omega
        clear hi1 hi1' hjl hcs hlv hr0 hb
        have HB3 := hide (HBD.out.setCell (p := ⟨g, i * 3, none⟩) hg (.bool false))
        have HO3 : Hid ((W2.setCell ⟨g, i * 3, none⟩ (.bool false)).ownsRow w1.heap.size 3 1 (.slice D' j cc) j (i64v (Z.take j))) := hide (cp_own HC2.out HO2.out rfl (by omega))
        have HOA := hide (HO3.out.alloc (.cells #[.int .i64 (i : Int)] 3))
        have HZ3 : Hid (w1.heap.size ≤ (W2.setCell ⟨g, i * 3, none⟩ (.bool false)).heap.size) := hide (by have := HZ2.out; simpa [World.setCell] using this)
        have HBA : Hid (Below w1.heap.size (W2.setCell ⟨g, i * 3, none⟩ (.bool false)) ((W2.setCell ⟨g, i * 3, none⟩ (.bool false)).alloc (.cells #[.int .i64 (i : Int)] 3))) := hide ((Below.refl _ _).alloc HZ3.out _)
        have HW1 : Hid (w.heap.size ≤ w1.heap.size) := hide HB1.out.size
        have HRO : Hid (Rd ((W2.setCell ⟨g, i * 3, none⟩ (.bool false)).alloc (.cells #[.int .i64 (i : Int)] 3)) (some ⟨W2.heap.size, 0, none⟩) [.int .i64 (i : Int)]) := hide (by have h := Rd.one (W2.setCell ⟨g, i * 3, none⟩ (.bool false)) 3 (.int .i64 (i : Int)); simpa [World.setCell] using h)
        go_wp2_with (first
          | (at_builtin
             refine wpList_int _ rfl (.tmp 36) (.tmp 38) rfl w1.heap.size _ j (Z.take j) rfl HOA.out _ (i : Int) rfl HRO.out (by omega) (Nat.le_trans HZ3.out HBA.out.size) ?_
             intro A6 c6 w6 hc6 hown6 hb6
             have HB6 := hide (HB3.out.trans ((HBA.out.trans hb6).mono HW1.out))
             have HC6 := hide (cp_keep HCS.out (HBA.out.trans hb6) HG.out)
             have HZ6 := hide (Nat.le_trans HZ3.out (HBA.out.trans hb6).size)
             have HO6 := hide hown6
             clear hown6 hb6))
        go_roundw
        case rel => exact ⟨j + 1, A6, c6, hjL, rfl, hc6, by rw [HWN.out]; congr 1; omega, HK2, HC6, by rw [HTK.out]; exact HO6, HB6, HZ6⟩
        case measure => simp [lenV]; omega
    · have e1 : decide (wo < need) = false := decide_eq_false hlt
      have HNK : Hid (need ≤ wonF S pages Z j) := hide (by rw [← HWO.out]; omega)
      have HRD := hide (Rd.of_own HO.out)
      clear hlt
      go_wp2_with fail
      go_ret2
      exact ⟨.inr ⟨j, D', cc, by rw [← HL.out]; exact hj, HNK.out, HK.out, hjc, HRD.out, rfl⟩, HB.out⟩
end Go.Proofs.YtndiionpijjdbaaDoor.SwW
