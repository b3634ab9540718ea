/- The walk of granaryref1.RecordRead. -/
import Derived.Test.YtndhmdengadmjaaRefBatch
import Derived.Test.YtndhmdengadmjaaRefNum
import Derived.Test.YtndhmdengadmjaaRecJoin
set_option linter.unusedVariables false
namespace Go.Proofs.Ytndhmdengadmjaa.RecW
open Go.RowKit Rec BufW I64

theorem natE_int (es : List Ent) : natE (intE es) = es := by
  rw [natE, intE, List.map_map]
  conv => rhs; rw [← List.map_id es]
  exact List.map_congr_left fun e _ => by simp [toN]
theorem okE3_int {es : List Ent} (h : ∀ e ∈ es, okE e) : ∀ e ∈ intE es, okE3 e := fun e he => by
  obtain ⟨x, hx, rfl⟩ := List.mem_map.1 he
  obtain ⟨a, b, c⟩ := h x hx
  unfold top at a b c
  unfold okE3 inN
  simp only
  omega
theorem BatsAt.below {w w' : World} {base : Nat} {v : Value} {ls : List (List Ent)} (h : BatsAt w base v ls) (hb : Below w.heap.size w w') : BatsAt w' base v ls := h.fr (T := never) (Fr.of_below hb (Nat.le_refl _)) (fun _ _ h => h) (fun _ _ h => h)

/-- Where the loop over batches stands. -/
structure QS (w W : World) (l : List UInt8) (v : Value) (ls : List (List Ent)) (a : Nat) : Prop where
  bats : BatsAt W w.heap.size v ls
  ok : ∀ es ∈ ls, okB es
  le : a ≤ l.length
  cut : l = flat ls ++ l.drop a
  low : Below w.heap.size w W
theorem QS.done {w W : World} {l : List UInt8} {v : Value} {ls : List (List Ent)} {a : Nat} (h : QS w W l v ls a) (hd : decB (l.drop a) = none) :
    ∃ v', Ending.returned (.tuple #[v, .int .i64 (a : Int)]) = .returned (.tuple #[v', .int .i64 ((l.length - (Rec.read l).2.length : Nat) : Int)]) ∧ BatsAt W w.heap.size v' (Rec.read l).1 ∧ Below w.heap.size w W := by
  have hr : Rec.read l = (ls, l.drop a) := by
    conv => lhs; rw [h.cut]
    exact read_eq h.ok hd
  have e : l.length - (l.drop a).length = a := by rw [List.length_drop]; have := h.le; omega
  rw [hr]
  simp only [e]
  exact ⟨v, rfl, h.bats, h.low⟩
theorem QS.below {w W W' : World} {l : List UInt8} {v : Value} {ls : List (List Ent)} {a : Nat} (h : QS w W l v ls a) (hb : Below W.heap.size W W') : QS w W' l v ls a :=
  ⟨h.bats.below hb, h.ok, h.le, h.cut, h.low.trans (hb.mono h.low.size)⟩
/-- Where the loop over entries stands. -/
structure ES (w2 W : World) (l : List UInt8) (k0 n : Nat) (v : Value) (es : List Ent) (k : Int) : Prop where
  ents : EntsAt W w2.heap.size v es
  low : Below w2.heap.size w2 W
  at_ : (∃ p : Nat, k = p ∧ p ≤ l.length ∧ l.drop k0 = Rec.ents es ++ l.drop p ∧ ∀ e ∈ es, okE e) ∨ (k = -1 ∧ decEs n (l.drop k0) = none)
/-- The box of an entry, beside the entries' row. -/
structure XB (w2 W : World) (gb : Nat) (cs : Array Value) (v : Value) (es : List Ent) : Prop where
  bk : Bk W gb 76 cs
  ents : EntsAt W w2.heap.size v es
  low : Below w2.heap.size w2 W
  ge : w2.heap.size ≤ gb
  ne : v.ownBlock ≠ some gb
theorem XB.set {w2 W : World} {gb : Nat} {cs : Array Value} {v : Value} {es : List Ent} (h : XB w2 W gb cs v es) (i : Nat) (u : Value) : XB w2 (W.setCell ⟨gb, i, none⟩ u) gb (cs.setIfInBounds i u) v es :=
  ⟨h.bk.put i u, ownsRow_setCell_other h.ents h.ne u, h.low.setCell h.ge u, h.ge, h.ne⟩
theorem XB.start {w2 W : World} {l : List UInt8} {k0 n : Nat} {v : Value} {es : List Ent} {k : Int} (h : ES w2 W l k0 n v es k) (cs : Array Value) : XB w2 (W.alloc (.cells cs 76)) W.heap.size cs v es :=
  ⟨Bk.new _ _ _, h.ents.alloc _, h.low.alloc h.low.size _, h.low.size, fun e => by have := (World.ownsRow.lt h.ents _ e).2; omega⟩

theorem body_len (es : List Ent) : 1 ≤ (body es).length := by
  rw [body, List.length_append]
  have := num_len es.length
  omega
theorem body_cut {l r0 : List UInt8} {a m k0 p : Nat} {es : List Ent} (hd : dec (l.drop a) = some (m, r0)) (hr : r0 = l.drop k0) (hk : l.drop k0 = Rec.ents es ++ l.drop p) (hm : es.length = m) (ha : a ≤ l.length) (hp : p ≤ l.length) :
    l.drop a = body es ++ l.drop p ∧ a + (body es).length = p := by
  have h1 : l.drop a = body es ++ l.drop p := by rw [(num_dec hd).1, hr, hk, body, hm, List.append_assoc]
  refine ⟨h1, ?_⟩
  have h2 := congrArg List.length h1
  rw [List.length_append, List.length_drop, List.length_drop] at h2
  omega
theorem body_take {l : List UInt8} {a p : Nat} {es : List Ent} (h : l.drop a = body es ++ l.drop p ∧ a + (body es).length = p) : (l.drop a).take (p + 4 - a) = body es ++ (l.drop p).take 4 := by
  rw [h.1, List.take_append, List.take_of_length_le (by omega)]
  congr 2
  omega
theorem bad_of {l : List UInt8} {a p : Nat} {es : List Ent} (h : l.drop a = body es ++ l.drop p ∧ a + (body es).length = p) (hok : es.length ≤ 64 ∧ ∀ e ∈ es, okE e) (hx : ¬ (p + 4 ≤ l.length ∧ bat es = (l.drop a).take (p + 4 - a))) : decB (l.drop a) = none := by
  have hd : dec (l.drop a) = some (es.length, Rec.ents es ++ l.drop p) := by
    rw [h.1, body, List.append_assoc]
    exact dec_num (by unfold top; omega) _
  refine decB_none4 hd (decEs_iff.2 ⟨rfl, rfl, hok.2⟩) (fun hs => hx ⟨?_, ?_⟩)
  · have := hs.2
    rw [List.length_drop] at this
    omega
  · rw [body_take h, bat, hs.1]
    congr 2
    rw [List.length_drop, List.length_drop]
    have h4 := hs.2
    rw [List.length_drop] at h4
    rw [show l.length - a - (l.length - p) = (body es).length from by omega, h.1, List.take_left]
theorem good_of {l : List UInt8} {a p : Nat} {es : List Ent} (h : l.drop a = body es ++ l.drop p) (hs : bat es = (l.drop a).take (p + 4 - a)) (hp : p + 4 ≤ l.length) (ha : a ≤ p) : l.drop a = bat es ++ l.drop (p + 4) := by
  rw [hs]
  conv => lhs; rw [← List.take_append_drop (p + 4 - a) (l.drop a)]
  rw [List.drop_drop, show a + (p + 4 - a) = p + 4 from by omega]
theorem ents_small : ∀ es : List Ent, (∀ e ∈ es, okE e) → (Rec.ents es).length ≤ 27 * es.length
  | [], _ => Nat.zero_le _
  | e :: es, h => by
    have ih := ents_small es (fun x hx => h x (List.mem_cons_of_mem _ hx))
    obtain ⟨a, b, c⟩ := h e (List.mem_cons_self ..)
    have h1 := num_len_le 9 e.1 (top_lt a) (by omega)
    have h2 := num_len_le 9 e.2.1 (top_lt b) (by omega)
    have h3 := num_len_le 9 e.2.2 (top_lt c) (by omega)
    simp only [Rec.ents, List.length_append, ent, List.length_cons] at ih ⊢
    omega
theorem bat_small (es : List Ent) (h1 : es.length ≤ 64) (h2 : ∀ e ∈ es, okE e) : (bat es).length ≤ 2000 := by
  have h3 := ents_small es h2
  have h4 := num_len_le 9 es.length (by omega) (by omega)
  rw [bat, body, List.length_append, List.length_append, sum_len]
  omega

set_option maxRecDepth 20000 in
set_option maxHeartbeats 8000000 in
theorem recordRead_any (A : Option Addr) (c n : Nat) (l : List UInt8) (w : World) (hn : n = l.length) (h : Rd w A (u8v l)) (hnc : n ≤ c) (hl : n ≤ 100000000) (hcm : c ≤ 9223372036854775807) :
    Calls Try.prog 16 #[.slice A n c] w fun e w' => ∃ v, e = .returned (.tuple #[v, .int .i64 ((l.length - (Rec.read l).2.length : Nat) : Int)]) ∧ BatsAt w' w.heap.size v (Rec.read l).1 ∧ Below w.heap.size w w' := by
  have H := hide h
  have HN := hide hn
  clear h hn
  go_enter Try.func16, Try.ntmps16
  go_wp2_with fail
  go_loopw [4, 5] (fun o i wr => ∃ (ls : List (List Ent)) (a : Nat), i = .int .i64 a ∧ Hid (QS w wr l o ls a)) (fun _ i _ => n - (intOf i).toNat)
  case atStart => exact ⟨[], 0, rfl, hide ⟨BatsAt.nil _ _, (fun es he => by cases he), Nat.zero_le _, by simp [flat], Below.refl _ _⟩⟩
  case round =>
    obtain ⟨ls, a, rfl, HS⟩ := hrel
    have HNA := hide (numberAt_any A c n l a wr HN.out (H.out.below HS.out.low) (by omega) (by have := HS.out.le; have := HN.out; omega))
    go_wp2_with fail
    refine HNA.out.mono ?_
    rintro e w2 ⟨hna, rfl⟩
    cases hd : dec (l.drop a) with
    | none =>
      obtain rfl := hna.2 hd
      have HR := hide (HS.out.done (decB_none1 hd))
      clear hna hd
      go_wp2_with fail
      go_ret2
      exact HR.out
    | some p =>
      obtain ⟨m, r0⟩ := p
      obtain rfl := hna.1 m r0 hd
      obtain ⟨k0, hk0⟩ : ∃ k0, k0 = l.length - r0.length := ⟨_, rfl⟩
      have hcut := dec_cut hd
      rw [← hk0] at hcut ⊢
      have HCUT := hide hcut
      have HD := hide hd
      have HK0 := hide hk0
      have hk0d : decide ((k0 : Int) < 0) = false := by simp
      clear hna hd hcut hk0 HNA
      by_cases hm : m ≤ 64
      · have hmd : decide ((m : Int) > 64) = false := by simp; omega
        have HE0 : Hid (ES w2 (w2.alloc (.cells #[] 76)) l k0 m (.slice (some ⟨w2.heap.size, 0, none⟩) 0 0) [] k0) := hide ⟨EntsAt.empty w2 (Nat.le_refl _), (Below.refl _ _).alloc (Nat.le_refl _) _, .inl ⟨k0, rfl, HCUT.out.2, by simp [Rec.ents], fun e he => (by cases he)⟩⟩
        go_wp2_with fail
        go_loopw [7, 8, 9] (fun k v i wq => ∃ (es : List Ent) (kk : Int), k = .int .i64 kk ∧ i = .int .i64 es.length ∧ es.length ≤ m ∧ Hid (ES w2 wq l k0 m v es kk)) (fun _ _ i _ => m - (intOf i).toNat)
        case atStart => exact ⟨[], k0, rfl, rfl, by simp, HE0⟩
        case round =>
          obtain ⟨es, kk, rfl, rfl, hem, HES⟩ := hrel
          obtain ⟨j, hj⟩ : ∃ j, j = es.length := ⟨_, rfl⟩
          have HJ := hide hj
          rw [← hj] at hem ⊢
          clear hj
          obtain ⟨Ae, ce, rfl⟩ := HES.out.ents.form
          rw [← HJ.out] at HES ⊢
          have HLOW : Hid (∀ W, Below w2.heap.size w2 W → Rd W A (u8v l)) := hide (fun W hb => H.out.below (HS.out.low.trans (hb.mono HS.out.low.size)))
          rcases HES.out.at_ with ⟨p, rfl, hpl, hcutp, hok⟩ | ⟨rfl, hbad⟩
          · have hpd : decide ((p : Int) ≥ 0) = true := by simp
            have HPL := hide hpl
            have HCP := hide hcutp
            have HOK := hide hok
            clear hpl hcutp hok
            by_cases hjm : j < m
            · have hjd : decide ((j : Int) < (m : Int)) = true := by simp; omega
              have HST : Hid (decE (l.drop p) = none → decEs m (l.drop k0) = none) := hide (fun h => by
                rw [HCP.out]
                exact decEs_stop HOK.out (by rw [← HJ.out]; exact hjm) h)
              have hx := XB.start HES.out #[.int .i64 0, .int .i64 0, .int .i64 0]
              have HNA := hide (numberAt_any A c n l p (wr.alloc (.cells #[.int .i64 0, .int .i64 0, .int .i64 0] 76)) HN.out (HLOW.out _ hx.low) (by omega) (by have := HPL.out; have := HN.out; omega))
              go_wp2_with fail
              refine HNA.out.mono ?_
              rintro e W1 ⟨hna, hW1⟩
              rw [← hW1] at hx
              clear hW1 HNA
              generalize wr.heap.size = gb at *
              have c0 := hx.bk.at_ (i := 0) (u := .int .i64 0) rfl
              have f0 := hx.bk.free 0
              cases hd1 : dec (l.drop p) with
              | none =>
                obtain rfl := hna.2 hd1
                have HBAD := hide (HST.out (by unfold decE; rw [hd1]; rfl))
                have hx := hx.set 0 (.int .i64 0)
                clear hna hd1
                have HX := hide hx
                have q0 := hx.bk.at_ (i := 0) (u := .int .i64 0) rfl
                have q1 := hx.bk.at_ (i := 1) (u := .int .i64 0) rfl
                have q2 := hx.bk.at_ (i := 2) (u := .int .i64 0) rfl
                have HENT : Hid (EntsAt ((W1.setCell ⟨gb, 0, none⟩ (.int .i64 0)).alloc (.cells #[.int .i64 0, .int .i64 0, .int .i64 0] 76)) w2.heap.size (.slice Ae j ce) es) := hide (hx.ents.alloc (.cells #[.int .i64 0, .int .i64 0, .int .i64 0] 76))
                have HNEW : Hid (Bk ((W1.setCell ⟨gb, 0, none⟩ (.int .i64 0)).alloc (.cells #[.int .i64 0, .int .i64 0, .int .i64 0] 76)) W1.heap.size 76 #[.int .i64 0, .int .i64 0, .int .i64 0]) := hide (by
                  have h := Bk.new (W1.setCell ⟨gb, 0, none⟩ (.int .i64 0)) 76 #[.int .i64 0, .int .i64 0, .int .i64 0]
                  rw [show (W1.setCell ⟨gb, 0, none⟩ (.int .i64 0)).heap.size = W1.heap.size from by simp] at h
                  exact h)
                have HLW := hide (hx.low.alloc hx.low.size (.cells #[.int .i64 0, .int .i64 0, .int .i64 0] 76))
                have HSZ := hide HLW.out.size
                have HLN : Hid (es.length ≤ 1000000000) := hide (by have := HJ.out; omega)
                clear hx
                go_wp2_with (first
                  | (refine wpList_ent rfl (.tmp 63) (.tmp 65) rfl rfl HENT.out (0, 0, 0) _ 1 rfl HNEW.out HLN.out HSZ.out ?_
                     intro g9 c9 w9 he9 hf9
                     have HE9 := hide he9
                     have HF9 := hide (HLW.out.trans hf9.low)
                     clear he9 hf9)
                  | fail)
                go_roundw
                all_goals try (simp [intOf]; have := HJ.out; omega; done)
                all_goals exact ⟨es ++ [(0, 0, 0)], -1, rfl, by rw [List.length_append, ← HJ.out]; go_num, by rw [List.length_append, ← HJ.out]; simp; omega, hide ⟨HE9.out, HF9.out, .inr ⟨rfl, HBAD.out⟩⟩⟩
              | some q1 =>
                obtain ⟨x, r1⟩ := q1
                obtain rfl := hna.1 x r1 hd1
                have HD1 := hide hd1
                obtain ⟨p1, hp1⟩ : ∃ p1, p1 = l.length - r1.length := ⟨_, rfl⟩
                have hcut1 := dec_cut hd1
                rw [← hp1] at hcut1 ⊢
                have HC1 := hide hcut1
                have hp1d : decide ((p1 : Int) ≥ 0) = true := by simp
                have hx := hx.set 0 (.int .i64 (x : Int))
                have HNA := hide (numberAt_any A c n l p1 (W1.setCell ⟨gb, 0, none⟩ (.int .i64 (x : Int))) HN.out (HLOW.out _ hx.low) (by omega) (by have := HC1.out; have := HN.out; omega))
                clear hna hd1 hp1 hcut1
                go_wp2_with fail
                refine HNA.out.mono ?_
                rintro e W2 ⟨hna, hW2⟩
                rw [← hW2] at hx
                clear hW2 HNA c0 f0
                have c1 := hx.bk.at_ (i := 1) (u := .int .i64 0) rfl
                have f1 := hx.bk.free 1
                cases hd2 : dec (l.drop p1) with
                | none =>
                  obtain rfl := hna.2 hd2
                  have HBAD := hide (HST.out (by unfold decE; rw [HD1.out, Option.bind_some, HC1.out.1, hd2]; rfl))
                  have hx := hx.set 1 (.int .i64 0)
                  clear hna hd2
                  have HX := hide hx
                  have q0 := hx.bk.at_ (i := 0) (u := .int .i64 (x : Int)) rfl
                  have q1 := hx.bk.at_ (i := 1) (u := .int .i64 0) rfl
                  have q2 := hx.bk.at_ (i := 2) (u := .int .i64 0) rfl
                  have HENT : Hid (EntsAt ((W2.setCell ⟨gb, 1, none⟩ (.int .i64 0)).alloc (.cells #[.int .i64 (x : Int), .int .i64 0, .int .i64 0] 76)) w2.heap.size (.slice Ae j ce) es) := hide (hx.ents.alloc (.cells #[.int .i64 (x : Int), .int .i64 0, .int .i64 0] 76))
                  have HNEW : Hid (Bk ((W2.setCell ⟨gb, 1, none⟩ (.int .i64 0)).alloc (.cells #[.int .i64 (x : Int), .int .i64 0, .int .i64 0] 76)) W2.heap.size 76 #[.int .i64 (x : Int), .int .i64 0, .int .i64 0]) := hide (by
                    have h := Bk.new (W2.setCell ⟨gb, 1, none⟩ (.int .i64 0)) 76 #[.int .i64 (x : Int), .int .i64 0, .int .i64 0]
                    rw [show (W2.setCell ⟨gb, 1, none⟩ (.int .i64 0)).heap.size = W2.heap.size from by simp] at h
                    exact h)
                  have HLW := hide (hx.low.alloc hx.low.size (.cells #[.int .i64 (x : Int), .int .i64 0, .int .i64 0] 76))
                  have HSZ := hide HLW.out.size
                  have HLN : Hid (es.length ≤ 1000000000) := hide (by have := HJ.out; omega)
                  clear hx
                  go_wp2_with (first
                    | (refine wpList_ent rfl (.tmp 63) (.tmp 65) rfl rfl HENT.out (x, 0, 0) _ 1 rfl HNEW.out HLN.out HSZ.out ?_
                       intro g9 c9 w9 he9 hf9
                       have HE9 := hide he9
                       have HF9 := hide (HLW.out.trans hf9.low)
                       clear he9 hf9)
                    | fail)
                  go_roundw
                  all_goals try (simp [intOf]; have := HJ.out; omega; done)
                  all_goals exact ⟨es ++ [(x, 0, 0)], -1, rfl, by rw [List.length_append, ← HJ.out]; go_num, by rw [List.length_append, ← HJ.out]; simp; omega, hide ⟨HE9.out, HF9.out, .inr ⟨rfl, HBAD.out⟩⟩⟩
                | some q2 =>
                  obtain ⟨y, r2⟩ := q2
                  obtain rfl := hna.1 y r2 hd2
                  have HD2 := hide hd2
                  obtain ⟨p2, hp2⟩ : ∃ p2, p2 = l.length - r2.length := ⟨_, rfl⟩
                  have hcut2 := dec_cut hd2
                  rw [← hp2] at hcut2 ⊢
                  have HC2 := hide hcut2
                  have hp2d : decide ((p2 : Int) ≥ 0) = true := by simp
                  have hx := hx.set 1 (.int .i64 (y : Int))
                  have HNA := hide (numberAt_any A c n l p2 (W2.setCell ⟨gb, 1, none⟩ (.int .i64 (y : Int))) HN.out (HLOW.out _ hx.low) (by omega) (by have := HC2.out; have := HN.out; omega))
                  clear hna hd2 hp2 hcut2
                  go_wp2_with fail
                  refine HNA.out.mono ?_
                  rintro e W3 ⟨hna, hW3⟩
                  rw [← hW3] at hx
                  clear hW3 HNA c1 f1
                  have c2 := hx.bk.at_ (i := 2) (u := .int .i64 0) rfl
                  have f2 := hx.bk.free 2
                  cases hd3 : dec (l.drop p2) with
                  | none =>
                    obtain rfl := hna.2 hd3
                    have HBAD := hide (HST.out (by unfold decE; rw [HD1.out, Option.bind_some, HC1.out.1, HD2.out, Option.bind_some, HC2.out.1, hd3]; rfl))
                    have hx := hx.set 2 (.int .i64 0)
                    clear hna hd3
                    have HX := hide hx
                    have q0 := hx.bk.at_ (i := 0) (u := .int .i64 (x : Int)) rfl
                    have q1 := hx.bk.at_ (i := 1) (u := .int .i64 (y : Int)) rfl
                    have q2 := hx.bk.at_ (i := 2) (u := .int .i64 0) rfl
                    have HENT : Hid (EntsAt ((W3.setCell ⟨gb, 2, none⟩ (.int .i64 0)).alloc (.cells #[.int .i64 (x : Int), .int .i64 (y : Int), .int .i64 0] 76)) w2.heap.size (.slice Ae j ce) es) := hide (hx.ents.alloc (.cells #[.int .i64 (x : Int), .int .i64 (y : Int), .int .i64 0] 76))
                    have HNEW : Hid (Bk ((W3.setCell ⟨gb, 2, none⟩ (.int .i64 0)).alloc (.cells #[.int .i64 (x : Int), .int .i64 (y : Int), .int .i64 0] 76)) W3.heap.size 76 #[.int .i64 (x : Int), .int .i64 (y : Int), .int .i64 0]) := hide (by
                      have h := Bk.new (W3.setCell ⟨gb, 2, none⟩ (.int .i64 0)) 76 #[.int .i64 (x : Int), .int .i64 (y : Int), .int .i64 0]
                      rw [show (W3.setCell ⟨gb, 2, none⟩ (.int .i64 0)).heap.size = W3.heap.size from by simp] at h
                      exact h)
                    have HLW := hide (hx.low.alloc hx.low.size (.cells #[.int .i64 (x : Int), .int .i64 (y : Int), .int .i64 0] 76))
                    have HSZ := hide HLW.out.size
                    have HLN : Hid (es.length ≤ 1000000000) := hide (by have := HJ.out; omega)
                    clear hx
                    go_wp2_with (first
                      | (refine wpList_ent rfl (.tmp 63) (.tmp 65) rfl rfl HENT.out (x, y, 0) _ 1 rfl HNEW.out HLN.out HSZ.out ?_
                         intro g9 c9 w9 he9 hf9
                         have HE9 := hide he9
                         have HF9 := hide (HLW.out.trans hf9.low)
                         clear he9 hf9)
                      | fail)
                    go_roundw
                    all_goals try (simp [intOf]; have := HJ.out; omega; done)
                    all_goals exact ⟨es ++ [(x, y, 0)], -1, rfl, by rw [List.length_append, ← HJ.out]; go_num, by rw [List.length_append, ← HJ.out]; simp; omega, hide ⟨HE9.out, HF9.out, .inr ⟨rfl, HBAD.out⟩⟩⟩
                  | some q3 =>
                    obtain ⟨z, r3⟩ := q3
                    obtain rfl := hna.1 z r3 hd3
                    obtain ⟨p3, hp3⟩ : ∃ p3, p3 = l.length - r3.length := ⟨_, rfl⟩
                    have hcut3 := dec_cut hd3
                    rw [← hp3] at hcut3 ⊢
                    have HC3 := hide hcut3
                    have HGOOD : Hid (l.drop k0 = Rec.ents (es ++ [(x, y, z)]) ++ l.drop p3 ∧ ∀ e ∈ es ++ [(x, y, z)], okE e) := hide (by
                      have hde : decE (l.drop p) = some ((x, y, z), l.drop p3) := by
                        unfold decE
                        rw [HD1.out, Option.bind_some, HC1.out.1, HD2.out, Option.bind_some, HC2.out.1, hd3, ← HC3.out.1]; rfl
                      have h1 := decE_iff.1 hde
                      refine ⟨?_, fun e he => ?_⟩
                      · rw [HCP.out, h1.1, ents_append]
                        simp [Rec.ents]
                      · rcases List.mem_append.1 he with he | he
                        · exact HOK.out e he
                        · have : e = (x, y, z) := by simpa using he
                          subst this
                          exact h1.2)
                    have hx := hx.set 2 (.int .i64 (z : Int))
                    clear hna hd3 hp3 hcut3
                    have HX := hide hx
                    have q0 := hx.bk.at_ (i := 0) (u := .int .i64 (x : Int)) rfl
                    have q1 := hx.bk.at_ (i := 1) (u := .int .i64 (y : Int)) rfl
                    have q2 := hx.bk.at_ (i := 2) (u := .int .i64 (z : Int)) rfl
                    have HENT : Hid (EntsAt ((W3.setCell ⟨gb, 2, none⟩ (.int .i64 (z : Int))).alloc (.cells #[.int .i64 (x : Int), .int .i64 (y : Int), .int .i64 (z : Int)] 76)) w2.heap.size (.slice Ae j ce) es) := hide (hx.ents.alloc (.cells #[.int .i64 (x : Int), .int .i64 (y : Int), .int .i64 (z : Int)] 76))
                    have HNEW : Hid (Bk ((W3.setCell ⟨gb, 2, none⟩ (.int .i64 (z : Int))).alloc (.cells #[.int .i64 (x : Int), .int .i64 (y : Int), .int .i64 (z : Int)] 76)) W3.heap.size 76 #[.int .i64 (x : Int), .int .i64 (y : Int), .int .i64 (z : Int)]) := hide (by
                      have h := Bk.new (W3.setCell ⟨gb, 2, none⟩ (.int .i64 (z : Int))) 76 #[.int .i64 (x : Int), .int .i64 (y : Int), .int .i64 (z : Int)]
                      rw [show (W3.setCell ⟨gb, 2, none⟩ (.int .i64 (z : Int))).heap.size = W3.heap.size from by simp] at h
                      exact h)
                    have HLW := hide (hx.low.alloc hx.low.size (.cells #[.int .i64 (x : Int), .int .i64 (y : Int), .int .i64 (z : Int)] 76))
                    have HSZ := hide HLW.out.size
                    have HLN : Hid (es.length ≤ 1000000000) := hide (by have := HJ.out; omega)
                    clear hx
                    go_wp2_with (first
                      | (refine wpList_ent rfl (.tmp 63) (.tmp 65) rfl rfl HENT.out (x, y, z) _ 1 rfl HNEW.out HLN.out HSZ.out ?_
                         intro g9 c9 w9 he9 hf9
                         have HE9 := hide he9
                         have HF9 := hide (HLW.out.trans hf9.low)
                         clear he9 hf9)
                      | fail)
                    go_roundw
                    all_goals try (simp [intOf]; have := HJ.out; omega; done)
                    all_goals exact ⟨es ++ [(x, y, z)], p3, rfl, by rw [List.length_append, ← HJ.out]; go_num, by rw [List.length_append, ← HJ.out]; simp; omega, hide ⟨HE9.out, HF9.out, .inl ⟨p3, rfl, HC3.out.2, HGOOD.out.1, HGOOD.out.2⟩⟩⟩
            · have hjd : decide ((j : Int) < (m : Int)) = false := by simp; omega
              have HJM : Hid (j = m) := hide (by omega)
              have hk0d' : decide ((p : Int) < 0) = false := by simp
              have HBODY := hide (body_cut (es := es) HD.out HCUT.out.1 HCP.out (HJ.out.symm.trans HJM.out) HS.out.le HPL.out)
              have HPA : Hid (a + 1 ≤ p) := hide (by have := HBODY.out.2; have := body_len es; omega)
              have HOKB : Hid (es.length ≤ 64 ∧ ∀ e ∈ es, okE e) := hide ⟨by rw [← HJ.out]; omega, HOK.out⟩
              have HSW := hide (HS.out.below HES.out.low)
              have hpn : p ≤ n := by have := HPL.out; have := HN.out; omega
              by_cases hfit : p + 4 ≤ n
              · have hfd : decide ((n : Int) < (p : Int) + 4) = false := by simp; omega
                have hfi : ¬ (n : Int) < (p : Int) + 4 := by omega
                have HBO := hide (batchOf_any (.slice Ae j ce) (intE es) wr HES.out.ents.rd (okE3_int HOK.out) (by rw [intE, List.length_map, ← HJ.out]; omega))
                unfold BatchPost at HBO
                rw [natE_int] at HBO
                have HRW := hide (H.out.below (HS.out.low.trans (HES.out.low.mono HS.out.low.size)))
                obtain ⟨b, off, hA, -, -⟩ := H.out.form (by rw [u8v_length, ← HN.out]; omega)
                subst hA
                have hca : ¬ c = a := by have := HPA.out; omega
                have k1 : (a : Int) ≤ (p : Int) + 4 := by have := HPA.out; omega
                have k2 : (p : Int) + 4 ≤ (c : Int) := by omega
                have k1n : a ≤ p + 4 := by have := HPA.out; omega
                have k2n : p + 4 ≤ c := by omega
                go_wp2_with fail
                refine HBO.out.mono ?_
                rintro e w5 ⟨A5, c5, rfl, ho5, hb5⟩
                have HRB := hide (Rd.of_own ho5)
                have HRC := hide (rd_cut (a := a) (a1 := p + 4) (HRW.out.below hb5) rfl (by have := HPA.out; omega) (by rw [← HN.out]; exact hfit))
                have HB5 := hide hb5
                obtain ⟨L, hL⟩ : ∃ L, L = (bat es).length := ⟨_, rfl⟩
                have HL5 := hide hL
                have HLS : Hid (L ≤ 9223372036854775807) := hide (by rw [hL]; have := bat_small es HOKB.out.1 HOKB.out.2; omega)
                have HCL := hide (rd_cut_len (l := l) (a := a) (a1 := p + 4) (by have := HPA.out; omega) (by rw [← HN.out]; exact hfit))
                rw [← hL]
                clear ho5 hb5 hL HBO HRW
                by_cases hsame : bat es = (l.drop a).take (p + 4 - a)
                · have HSA : Hid (∀ k cc, k = p + 4 - a → Calls Try.prog 14 #[.slice A5 L c5, .slice (some ⟨b, off + a, none⟩) k cc] w5 fun e w' => e = .returned (.bool true) ∧ ∃ d, w' = w5.drewN d) := hide (fun k cc hk => same_any A5 (some ⟨b, off + a, none⟩) (bat es) ((l.drop a).take (p + 4 - a)) L k c5 cc w5 HL5.out (by rw [HCL.out, hk]) HLS.out HRB.out HRC.out true (by simp [hsame]))
                  have HCUT2 := hide (good_of HBODY.out.1 hsame (by rw [← HN.out]; exact hfit) (by have := HPA.out; omega))
                  clear hsame HL5 HRB HRC HCL HLS
                  go_wp2_with fail
                  refine (HSA.out _ _ rfl).mono ?_
                  rintro e w6 ⟨rfl, d, hw6⟩
                  have HB6 : Hid (Below wr.heap.size wr w6) := hide (by rw [hw6]; exact below_drewN HB5.out d)
                  have hj2 := HJ.out
                  subst hj2
                  have hlw : wr.heap.size ≤ w6.heap.size := HB6.out.size
                  have hlw0 : w.heap.size ≤ wr.heap.size := HSW.out.low.size
                  have hl20 : w.heap.size ≤ w2.heap.size := HS.out.low.size
                  have HQ : Hid (QS w (w6.alloc (.cells #[.slice Ae es.length ce] 70)) l u4 ls a) := hide (HSW.out.below (HB6.out.alloc hlw (.cells #[.slice Ae es.length ce] 70)))
                  have HEN : Hid (EntsAt (w6.alloc (.cells #[.slice Ae es.length ce] 70)) w.heap.size (.slice Ae es.length ce) es) := hide ((HES.out.ents.lower hl20).fr (T := never) (Fr.of_below (HB6.out.alloc hlw (.cells #[.slice Ae es.length ce] 70)) (Nat.le_refl _)) (fun _ _ h => h))
                  have HK := hide (Bk.new w6 70 #[.slice Ae es.length ce])
                  have HOKL : Hid (∀ e ∈ ls ++ [es], okB e) := hide (fun e he => by
                    rcases List.mem_append.1 he with he | he
                    · exact HS.out.ok e he
                    · have : e = es := by simpa using he
                      subst this
                      exact HOKB.out)
                  have HCUTL : Hid (l = flat (ls ++ [es]) ++ l.drop (p + 4)) := hide (by
                    rw [flat_append]
                    conv => lhs; rw [HS.out.cut, HCUT2.out]
                    simp [flat])
                  have HLNS : Hid (ls.length ≤ 1000000000) := hide (by
                    have h1 := flat_len ls
                    have h2 := congrArg List.length HS.out.cut
                    rw [List.length_append] at h2
                    have := HN.out
                    omega)
                  have HSZ : Hid (w.heap.size ≤ (w6.alloc (.cells #[.slice Ae es.length ce] 70)).heap.size) := hide (by simp; omega)
                  have HPL4 : Hid (p + 4 ≤ l.length) := hide (by rw [← HN.out]; exact hfit)
                  clear hw6 hlw hlw0 hl20 HSA HSW HB6 HB5 HE0 HES
                  go_wp2_with (first
                    | (refine wpList_bat rfl (.tmp 91) (.tmp 93) rfl rfl HQ.out.bats es Ae ce HEN.out w6.heap.size 1 rfl HK.out HLNS.out HSZ.out ?_
                       intro A9 cap9 w9 hb9 hf9
                       have HB9 := hide hb9
                       have HL9 := hide (HQ.out.low.trans hf9.low)
                       clear hb9 hf9)
                    | fail)
                  all_goals go_roundw
                  all_goals (first
                    | exact ⟨ls ++ [es], p + 4, by go_num, hide ⟨HB9.out, HOKL.out, HPL4.out, HCUTL.out, HL9.out⟩⟩
                    | (have := HPA.out; simp [intOf]; omega))
                · have HSA : Hid (∀ k cc, k = p + 4 - a → Calls Try.prog 14 #[.slice A5 L c5, .slice (some ⟨b, off + a, none⟩) k cc] w5 fun e w' => e = .returned (.bool false) ∧ ∃ d, w' = w5.drewN d) := hide (fun k cc hk => same_any A5 (some ⟨b, off + a, none⟩) (bat es) ((l.drop a).take (p + 4 - a)) L k c5 cc w5 HL5.out (by rw [HCL.out, hk]) HLS.out HRB.out HRC.out false (by simp [hsame]))
                  have HBADB := hide (bad_of HBODY.out HOKB.out (fun h => hsame h.2))
                  clear hsame HL5 HRB HRC HCL HLS
                  go_wp2_with fail
                  refine (HSA.out _ _ rfl).mono ?_
                  rintro e w6 ⟨rfl, d, rfl⟩
                  have HR := hide ((HSW.out.below (below_drewN HB5.out d)).done HBADB.out)
                  go_wp2_with fail
                  go_ret2
                  exact HR.out
              · have hfd : decide ((n : Int) < (p : Int) + 4) = true := by simp; omega
                have hfi : (n : Int) < (p : Int) + 4 := by omega
                have HR := hide (HSW.out.done (bad_of HBODY.out HOKB.out (fun h => hfit (by rw [HN.out]; exact h.1))))
                go_wp2_with fail
                go_ret2
                exact HR.out
          · have HBAD := hide hbad
            have HR := hide ((HS.out.below HES.out.low).done (decB_none3 HD.out (by rw [HCUT.out.1]; exact hbad)))
            clear hbad
            by_cases hjm : j < m
            · have hjd : decide ((j : Int) < (m : Int)) = true := by simp; omega
              go_wp2_with fail
              go_ret2
              exact HR.out
            · have hjd : decide ((j : Int) < (m : Int)) = false := by simp; omega
              go_wp2_with fail
              go_ret2
              exact HR.out
      · have hmd : decide ((m : Int) > 64) = true := by simp; omega
        have HR := hide (HS.out.done (decB_none2 HD.out hm))
        go_wp2_with fail
        go_ret2
        exact HR.out
end Go.Proofs.Ytndhmdengadmjaa.RecW
