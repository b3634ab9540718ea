/- The walk of Buffer.Drain. -/
import Derived.Test.YtndhmdengadmjaaDoorBufE
import Derived.Test.YtndhmdengadmjaaDoorItems
import Derived.LaidEqlPtr
set_option linter.unusedVariables false
namespace Go.Proofs.YtndhmdengadmjaaDoor.BufW
open Go.RowKit I64 IdMap Ring BufP Items

/-- The kinds of blocks that Drain writes. -/
def drainT : Obj → Prop
  | .map _ _ => True
  | .cells _ t _ => t = 69 ∨ t = 71 ∨ t = 54
  | _ => False
theorem ringT_drain {o : Obj} (h : ringT o) : drainT o := by
  cases o <;> simp only [drainT, ringT] at h ⊢
  rcases h with h | h
  · exact .inl h
  · exact .inr (.inl h)
theorem not_u8d (cs : Array Value) (r : Nat × Nat) : ¬ drainT (.cells cs 5 r) := by simp only [drainT]; decide
theorem not_bufd (cs : Array Value) (r : Nat × Nat) : ¬ drainT (.cells cs 75 r) := by simp only [drainT]; decide
/-- The kind of the items' rows. -/
def itemT : Obj → Prop
  | .cells _ t _ => t = 54
  | _ => False
theorem itemT_drain {o : Obj} (h : itemT o) : drainT o := by
  cases o <;> simp only [drainT, itemT] at h ⊢
  exact .inr (.inr h)

/-- Where Drain stands behind j items. -/
structure DrAt (w0 w : World) (B g r m : Nat) (most : Int) (L : List It) (j : Nat) (o : Value) (E : List (Nat × It)) (nx pv : Nat → Nat) : Prop where
  box : Bk w g 75 #[.int .i64 most, ptr r, .map (some m)]
  ring : RingAt w B r E nx pv
  map : MapAt w m (L.length - j) (fE E)
  its : E.map (·.2) = L.drop j
  rows : RowsAt w B B 54 o (L.take j)
  fr : Fr B drainT w0 w

def sliceLen : Value → Nat
  | .slice _ n _ => n
  | _ => 0

theorem item_info : (Tryd.prog.info? 54).map (fun i => (i.zero, i.size, i.bytes)) = some (some (.agg #[.int .i64 0, .bool false, .slice none 0 0]), 3, 40) := by kernel_rfl

theorem link_info : (Tryd.prog.info? 69).map (·.size) = some 5 := by kernel_rfl
theorem neq_same (w : World) (a : Nat) : (binOp .neq 67 (.pointer (some ⟨a, 0, none⟩)) (.pointer (some ⟨a, 0, none⟩))).run Tryd.prog w = .ok (.bool false) w := by
  cases hi : Tryd.prog.info? 69 with
  | none => have := link_info; rw [hi] at this; cases this
  | some j =>
    have h : ∀ d : Nat, (Op.equalIn (d + 1) 67 (.pointer (some ⟨a, 0, none⟩)) (.pointer (some ⟨a, 0, none⟩))).run Tryd.prog w = .ok true w := fun d => by
      simp [Op.equalIn, run_underlying Tryd.underlying67, sizeOf, typeInfo, hi, run_sameAddr_same]
    simp only [binOp]
    simp [Op.equal, Op.maxDepth, h 9999]
theorem neq_other {w : World} {a b : Nat} {ca cb : Array Value} {ta tb : TypeId} (hne : a ≠ b) (ha : Bk w a ta ca) (hb : Bk w b tb cb) : (binOp .neq 67 (.pointer (some ⟨a, 0, none⟩)) (.pointer (some ⟨b, 0, none⟩))).run Tryd.prog w = .ok (.bool true) w := by
  cases hi : Tryd.prog.info? 69 with
  | none => have := link_info; rw [hi] at this; cases this
  | some j =>
    have hj : j.size = 5 := by have := link_info; rw [hi] at this; injection this
    have hne' : (⟨a, 0, none⟩ : Addr) ≠ ⟨b, 0, none⟩ := fun e => hne (by injection e)
    have h : ∀ d : Nat, (Op.equalIn (d + 1) 67 (.pointer (some ⟨a, 0, none⟩)) (.pointer (some ⟨b, 0, none⟩))).run Tryd.prog w = .ok false w := fun d => by
      simp [Op.equalIn, run_underlying Tryd.underlying67, sizeOf, typeInfo, hi, hj, run_sameAddr_other w hne' ha hb]
    simp only [binOp]
    simp [Op.equal, Op.maxDepth, h 9999]

set_option maxHeartbeats 4000000 in
theorem drain_any (B g : Nat) (most : Int) (L : List It) (k : Int) (w : World) (h : BufAt w B g most L) :
    Calls Tryd.prog 15 #[ptr g, .int .i64 k] w fun en w' => ∃ v, en = .returned v ∧ RowsAt w' B B 54 v (L.take (min k.toNat L.length)) ∧ BufAt w' B g most (L.drop (min k.toNat L.length)) ∧ Fr B drainT w w' := by
  obtain ⟨r, m, E, nx, pv, hg, hmB, hR, hM, hE, hO, hLm, h16, hLx⟩ := h
  replace hM := mapE hM
  have H0 : Hid (DrAt w w B g r m most L 0 (.slice none 0 0) E nx pv) := hide ⟨hg, hR, by simpa using hM, by simpa using hE, RowsAt.nil _ _ _ _, Fr.refl _ _ _⟩
  have HmB := hide hmB
  have HO := hide hO
  have HLm := hide hLm
  have H16 := hide h16
  have HLx := hide hLx
  have g1 := hg.at_ (i := 1) (u := ptr r) rfl
  have r4 := hR.root.at_ (i := 4) (u := ptr (nx r)) rfl
  clear hg hR hM hE hO hLm h16 hLx hmB
  unfold ptr at g1 r4
  unfold ptr
  go_enter Tryd.func15, Tryd.ntmps15
  go_wp2_with fail
  go_loopw [5, 6] (fun o x wr => ∃ j E' nx' pv', j ≤ L.length ∧ (j = 0 ∨ (j : Int) ≤ k) ∧ x = .pointer (some ⟨nx' r, 0, none⟩) ∧ sliceLen o = j ∧ Hid (DrAt w wr B g r m most L j o E' nx' pv')) (fun o _ _ => L.length - sliceLen o)
  case atStart => exact ⟨0, E, nx, pv, by omega, .inl rfl, rfl, rfl, H0⟩
  case round =>
    obtain ⟨j, E', nx', pv', hj, hk, rfl, hs, HD⟩ := hrel
    have b1 := HD.out.box.at_ (i := 1) (u := ptr r) rfl
    unfold ptr at b1
    have hln : (L.take j).length = j := by rw [List.length_take]; omega
    have HF := HD.out.rows.form
    rw [hln] at HF
    obtain ⟨A, c, rfl, -, -⟩ := HF
    clear hln hs
    have BACK : Hid (min k.toNat L.length = j → ∃ v, Ending.returned (.slice A j c) = Ending.returned v ∧ RowsAt wr B B 54 v (L.take (min k.toNat L.length)) ∧ BufAt wr B g most (L.drop (min k.toNat L.length)) ∧ Fr B drainT w wr) := hide (by
      intro h1
      rw [h1]
      refine ⟨_, rfl, HD.out.rows, ⟨r, m, E', nx', pv', HD.out.box, HmB.out, HD.out.ring, ?_, HD.out.its, once_drop HO.out j, ?_, H16.out, fun x hx => HLx.out x (List.mem_of_mem_drop hx)⟩, HD.out.fr⟩
      · rw [List.length_drop]; exact HD.out.map
      · rw [List.length_drop]; have := HLm.out; omega)
    cases E' with
    | nil =>
      have hnr : nx' r = r := by have := nx_root HD.out.ring.cyc; simpa using this
      have HJ : Hid (min k.toNat L.length = j) := hide (by
        have := congrArg List.length HD.out.its
        simp only [List.map_nil, List.length_nil, List.length_drop] at this
        omega)
      rw [hnr]
      have q := neq_same wr r
      clear H0 g1 r4
      go_wp2_with fail
      go_ret
      exact BACK.out HJ.out
    | cons e E2 =>
      have hnr : nx' r = e.1 := by have := nx_root HD.out.ring.cyc; simpa using this
      obtain ⟨hB1, Ad, cd, kE, dE⟩ := HD.out.ring.ents e (by simp)
      have hne : e.1 ≠ r := fun e1 => by have := (List.nodup_cons.1 HD.out.ring.nodup).1; exact this (by simp [e1])
      have q := neq_other hne kE HD.out.ring.root
      rw [hnr]
      clear H0 g1 r4
      by_cases hjk : (j : Int) < k
      · have hdec : decide ((j : Int) < k) = true := decide_eq_true hjk
        have HDR : Hid (EntAt wr B pv' nx' e) := hide ⟨hB1, Ad, cd, kE, dE⟩
        clear kE dE
        go_wp2_with fail
        have HCUT := hide (cut_any B r [] E2 e nx' pv' wr HD.out.ring)
        unfold ptr at HCUT
        refine HCUT.out.mono ?_
        rintro en w3 ⟨rfl, hR3, hF3, hE3, hn3⟩
        obtain ⟨n, y0, y1, ld⟩ := e
        have hLm := HD.out.its
        obtain ⟨-, A3, c3, kE3, dE3⟩ := hE3
        have hjl : j < L.length := by
          have := congrArg List.length HD.out.its
          simp only [List.map_cons, List.length_cons, List.length_drop] at this
          omega
        have hLj : L[j]? = some (y0, y1, ld) := by
          have h1 : (L.drop j)[0]? = some (y0, y1, ld) := by rw [← HD.out.its]; rfl
          rw [List.getElem?_drop] at h1
          simpa using h1
        have hy := HLx.out _ (List.mem_of_getElem? hLj)
        simp only at hy hnr kE3 dE3 hF3 hR3 hn3 hB1
        have hfe : fE ((n, (y0, y1, ld)) :: E2) y0 = some n := by rw [fE_cons, if_pos rfl]
        have M3 := hide ((HD.out.map.fr hF3 (fun _ _ h => h)).fr (Fr.refl B never _).drew (fun _ _ h => h))
        have KG3 := hF3.bk HD.out.box (by simp only [linkT]; decide)
        have b2 := KG3.at_ (i := 2) (u := .map (some m)) rfl
        have e0 := kE3.at_ (i := 0) (u := .int .i64 y0) rfl
        have HKG3 := hide KG3
        have HKE3 := hide kE3
        have HDE3 := hide dE3
        have HF3 := hide hF3
        have HR3 := hide hR3
        have HN3 := hide hn3
        have HLJ := hide hLj
        have HFE := hide hfe
        have HY := hide hy
        have HJL := hide hjl
        clear KG3 kE3 dE3 hF3 hR3 hn3 hLj hfe hy hLm HDR q b1 HCUT
        go_wp2_with fail
        go_region_law (first
          | (refine step_delete rfl (.tmp 38) (.tmp 43) rfl rfl rfl M3.out (by have := HY.out.1; omega) HY.out.2 HFE.out ?_
             intro w4 hM4 hT4))
        all_goals (
          have f4 := hide (turned_fr (B := B) (T := drainT) M3.out hT4 HmB.out (fun _ _ => trivial))
          have f4' := hide (turned_fr (B := B) (T := fun o => ∃ es cl, o = .map es cl) M3.out hT4 HmB.out (fun es cl => ⟨es, cl, rfl⟩))
          have HM4 := hide hM4
          clear hM4 hT4 b2 e0)
        all_goals (
          have kE4 := f4'.out.bk HKE3.out.drew (fun ⟨_, _, h⟩ => by cases h)
          have x0 := kE4.at_ (i := 0) (u := .int .i64 y0) rfl
          have x1 := kE4.at_ (i := 1) (u := .bool y1) rfl
          have x2 := kE4.at_ (i := 2) (u := .slice A3 ld.length c3) rfl
          have fx : Fr B drainT w3.drew (w4.alloc (.cells #[.int .i64 y0, .bool y1, .slice A3 ld.length c3] 54)) := f4.out.alloc (Nat.le_trans (Nat.le_trans HR3.out.low (Nat.le_of_lt HR3.out.root.lt)) f4.out.size) _
          have fx' : Fr B (fun o => ∃ es cl, o = .map es cl) w3.drew (w4.alloc (.cells #[.int .i64 y0, .bool y1, .slice A3 ld.length c3] 54)) := f4'.out.alloc (Nat.le_trans (Nat.le_trans HR3.out.low (Nat.le_of_lt HR3.out.root.lt)) f4.out.size) _
          have RX := hide (((HD.out.rows.fr HF3.out (fun _ _ => by simp only [linkT]; decide) not_u8l).fr (Fr.refl B never _).drew (fun _ _ h => h) (fun _ _ h => h)).fr fx' (fun _ _ ⟨_, _, h⟩ => by cases h) (fun _ _ ⟨_, _, h⟩ => by cases h))
          have DX := hide ((HDE3.out.fr (Fr.refl B never _).drew (fun _ _ h => h)).fr fx' (fun _ _ ⟨_, _, h⟩ => by cases h))
          have BX := hide (Bk.new w4 54 #[.int .i64 y0, .bool y1, .slice A3 ld.length c3])
          have HFX := hide fx
          have HFX' := hide fx'
          have hln : (L.take j).length = j := by rw [List.length_take]; omega
          have HLN := hide hln
          have H32 : Hid (j + 1 ≤ 3518437208883) := hide (by have := HLm.out; have := H16.out; omega)
          have HBX : Hid (B ≤ (w4.alloc (.cells #[.int .i64 y0, .bool y1, .slice A3 ld.length c3] 54)).heap.size) := hide (Nat.le_trans (Nat.le_trans HR3.out.low (Nat.le_of_lt HR3.out.root.lt)) fx.size)
          clear kE4 fx fx' hln
          go_wp2_with (first
            | (refine wpList_item (B := B) (base := B) rfl (.tmp 44) (.tmp 49) rfl Tryd.underlying48 item_info (by decide) rfl RX.out (y0, y1, ld) A3 c3 DX.out w4.heap.size 1 rfl BX.out (by rw [HLN.out]; exact H32.out) (Nat.le_refl _) HBX.out ?_
               intro g5 cap5 w5 hr5 hf5
               have hpv : pv' n = r := by
                 have := (nx_mem (l := []) HD.out.ring.cyc).2
                 simpa using this
               have hq : upd nx' (pv' n) (nx' n) n = nx' n := by rw [hpv]; exact upd_ne _ _ _ hne
               have hq2 : upd nx' (pv' n) (nx' n) r = nx' n := by rw [hpv]; exact upd_same _ _ _
               have HQ2 := hide hq2
               have kE5 := hf5.bk ((f4'.out.bk HKE3.out.drew (fun ⟨_, _, h⟩ => by cases h)).alloc (.cells #[.int .i64 y0, .bool y1, .slice A3 ld.length c3] 54)) (by simp only [rowT]; decide)
               have x4 := kE5.at_ (i := 4) (u := ptr (upd nx' (pv' n) (nx' n) n)) rfl
               rw [hq] at x4
               unfold ptr at x4
               have hbk5 := hide (hf5.bk (HFX'.out.bk HKG3.out.drew (fun ⟨_, _, h⟩ => by cases h)) (by simp only [rowT]; decide))
               have hRR : RingAt w5 B r E2 (upd nx' (pv' n) (nx' n)) (upd pv' (nx' n) (pv' n)) := by
                 refine ((HR3.out.fr (Fr.refl B never _).drew (fun _ _ _ h => h.elim)).fr HFX'.out (fun _ _ _ ⟨_, _, h⟩ => by cases h)).fr hf5 ?_
                 intro cs t q ht
                 simp only [rowT] at ht
                 subst ht
                 decide
               have hring5 := hide hRR
               have hmap5 : Hid (MapAt w5 m (L.length - (j + 1)) (fE E2)) := hide (by
                 have h1 := (HM4.out.fr ((Fr.refl B never _).alloc (Nat.le_trans (Nat.le_trans HR3.out.low (Nat.le_of_lt HR3.out.root.lt)) f4.out.size) (.cells #[.int .i64 y0, .bool y1, .slice A3 ld.length c3] 54)) (fun _ _ h => h)).fr hf5 (fun _ _ h => h)
                 rw [Nat.sub_sub] at h1
                 refine h1.congr fun q _ _ => ?_
                 have hO1 : Once ((([] : List (Nat × It)) ++ (n, (y0, y1, ld)) :: E2).map (·.2)) := by
                   rw [List.nil_append, HD.out.its]
                   exact once_drop HO.out j
                 exact fE_cut hO1 q)
               have hits5 : Hid (E2.map (·.2) = L.drop (j + 1)) := hide (by
                 have h1 := HD.out.its
                 rw [List.map_cons, ← List.getElem_cons_drop hjl] at h1
                 exact (List.cons.inj h1).2)
               have hrows5 : Hid (RowsAt w5 B B 54 (.slice (some ⟨g5, 0, none⟩) (j + 1) cap5) (L.take (j + 1))) := hide (by
                 have h1 := hr5
                 rw [HLN.out] at h1
                 have h2 : L.take (j + 1) = L.take j ++ [(y0, y1, ld)] := by
                   rw [List.take_add_one, HLJ.out]; rfl
                 rw [h2]
                 exact h1)
               have hfr5 : Hid (Fr B drainT w w5) := hide ((((HD.out.fr.trans (HF3.out.mono fun _ h => ringT_drain (linkT_ring h))).trans (Fr.refl B drainT _).drew).trans HFX.out).trans (hf5.mono fun o h => by
                 cases o <;> simp only [rowT, drainT] at h ⊢
                 exact .inr (.inr h)))
               clear kE5 hRR hpv hq hq2 hr5 hf5 x0 x1 x2)
            | fail))
        all_goals go_roundw
        all_goals (first | exact ⟨j + 1, E2, _, _, by omega, .inr (by omega), by rw [HQ2.out], rfl, hide ⟨hbk5.out, hring5.out, hmap5.out, hits5.out, hrows5.out, hfr5.out⟩⟩ | (simp only [sliceLen]; omega))
      · have hdec : decide ((j : Int) < k) = false := decide_eq_false hjk
        have HJ : Hid (min k.toNat L.length = j) := hide (by
          omega)
        clear kE dE
        go_wp2_with fail
        go_ret
        exact BACK.out HJ.out
end Go.Proofs.YtndhmdengadmjaaDoor.BufW
