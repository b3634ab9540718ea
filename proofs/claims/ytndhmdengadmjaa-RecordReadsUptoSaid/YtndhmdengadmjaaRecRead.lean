/- The walk of record.Read, over what a batch is read as. -/
import Derived.Test.YtndhmdengadmjaaRecBatL
set_option linter.unusedVariables false
namespace Go.Proofs.Ytndhmdengadmjaa.RecW
open Go.RowKit Rec BufW I64

/-- What the walk of batch says. -/
def BatchSays : Prop := ∀ (B rb : Nat) (A : Option Addr) (c : Nat) (l : List UInt8) (a : Nat) (w : World), Rdr w B rb A c l a → a ≤ l.length →
    Calls Try.prog 25 #[ptr rb] w (BatPost w B rb A c l a)

/-- A slice of batches, the call's own from base on. -/
def BatsAt (w : World) (base : Nat) (v : Value) (ls : List (List Ent)) : Prop :=
  ∃ R : List (List Ent × Value), R.map (·.1) = ls ∧ w.ownsRow base 70 1 v ls.length (R.map (·.2)) ∧ ∀ r ∈ R, EntsAt w base r.2 r.1
theorem bats_info : (Try.prog.info? 70).map (fun i => (i.zero, i.size, i.bytes)) = some (some (.slice none 0 0), 1, 24) := by kernel_rfl
theorem BatsAt.nil (w : World) (base : Nat) : BatsAt w base (.slice none 0 0) [] := ⟨[], rfl, ⟨rfl, .inl ⟨rfl, rfl⟩⟩, fun r hr => (by cases hr)⟩
theorem BatsAt.fr {w w' : World} {B base : Nat} {v : Value} {ls : List (List Ent)} {T : Obj → Prop} (h : BatsAt w base v ls) (hf : Fr B T w w') (h1 : ∀ cs r, ¬ T (.cells cs 76 r)) (h2 : ∀ cs r, ¬ T (.cells cs 70 r)) : BatsAt w' base v ls := by
  obtain ⟨R, a, b, d⟩ := h
  exact ⟨R, a, Items.own_fr b hf h2, fun r hr => (d r hr).fr hf h1⟩
theorem BatsAt.form {w : World} {base : Nat} {v : Value} {ls : List (List Ent)} (h : BatsAt w base v ls) : ∃ A c, v = .slice A ls.length c := by
  obtain ⟨R, -, b, -⟩ := h
  rcases b.2 with ⟨rfl, h0⟩ | ⟨g, cap, cur, rfl, -⟩
  · exact ⟨none, 0, by rw [h0]⟩
  · exact ⟨_, cap, rfl⟩
theorem EntsAt.lower {w : World} {b b' : Nat} {v : Value} {es : List Ent} (h : EntsAt w b v es) (hb : b' ≤ b) : EntsAt w b' v es := own_base h hb

/-- 'append(out, l)' of one batch. -/
theorem wpList_bat {w : World} {ops : Array Oper} {rest : List Oper} {o : Oper} {a : Act} {Q : Exit → Act → World → Prop} {base : Nat} {v : Value} {ls : List (List Ent)} (hgd : o.guard = none) (s x : Operand)
    (ho : o.op = .call { callee := .builtin .append, args := #[s, x], argTypes := #[44, 44] })
    (hs : a.eval s = v) (h : BatsAt w base v ls) (es : List Ent) (Ae : Option Addr) (ce : Nat) (he : EntsAt w base (.slice Ae es.length ce) es) (gb cx : Nat) (hx : a.eval x = .slice (some ⟨gb, 0, none⟩) 1 cx)
    (hc : Bk w gb 70 #[.slice Ae es.length ce]) (hl : ls.length ≤ 1000000000) (hbase : base ≤ w.heap.size)
    (hK : ∀ (A : Option Addr) (cap : Nat) (w' : World), BatsAt w' base (.slice A (ls.length + 1) cap) (ls ++ [es]) → Fr base (rowK 70) w w' → wpList Try.prog ops Q rest (a.put o.dst (.slice A (ls.length + 1) cap)) w') : wpList Try.prog ops Q (o :: rest) a w := by
  obtain ⟨i, hi, hz, hsz, hby⟩ := info_parts bats_info
  obtain ⟨R, h1, h2, h3⟩ := h
  have hr : Rd w (some ⟨gb, 0, none⟩) [.slice Ae es.length ce] := .inr ⟨gb, 0, rfl, fun i u hu => by rw [Nat.zero_add]; exact hc.at_ (by simpa using hu)⟩
  refine wpList_append_rd w hgd s x 44 ho base 70 i _ 24 Try.underlying44 hi hz hsz hby rfl v ls.length (R.map (·.2)) hs h2 _ 1 cx [.slice Ae es.length ce] hx rfl hr (by intro u hu; simp only [List.mem_singleton] at hu; subst hu; rfl) (by simp only [maxLen]; omega) (by omega) hbase ?_
  intro v' w5 ho5 hg5
  have f5 : Fr base (rowK 70) w w5 := Fr.row hg5 hbase fun k hk => ⟨(World.ownsRow.lt h2 k hk).1, fun o ho => by
    rcases h2.2 with ⟨rfl, -⟩ | ⟨g, cap, cur, rfl, -, hh, -⟩
    · cases hk
    · have : g = k := by simpa [Value.ownBlock] using hk
      subst this
      rw [hh] at ho
      injection ho with ho
      subst ho
      rfl⟩
  obtain ⟨A', c', rfl, -⟩ := own_form ho5
  refine hK A' c' w5 ⟨R ++ [(es, .slice Ae es.length ce)], by simp [h1], by rw [List.map_append, List.length_append]; exact ho5, fun r hr' => ?_⟩ f5
  have hne : ∀ cs r, ¬ rowK 70 (.cells cs 76 r) := fun cs r => by simp only [rowK]; decide
  rcases List.mem_append.1 hr' with hr' | hr'
  · exact (h3 r hr').fr f5 hne
  · have : r = (es, .slice Ae es.length ce) := by simpa using hr'
    subst this
    exact he.fr f5 hne

def sliceLn : Value → Nat
  | .slice _ n _ => n
  | _ => 0
theorem flat_len : ∀ ls : List (List Ent), ls.length * 5 ≤ (flat ls).length
  | [] => Nat.zero_le _
  | es :: ls => by
    have := flat_len ls
    have := bat_len es
    rw [flat, List.length_append, List.length_cons]
    omega

/-- Where Read stands. -/
structure RS (w W : World) (A : Option Addr) (c : Nat) (l : List UInt8) (rb : Nat) (ls : List (List Ent)) (v : Value) (a : Nat) : Prop where
  rdr : Rdr W w.heap.size rb A c l a
  bats : BatsAt W w.heap.size v ls
  ok : ∀ es ∈ ls, okB es
  le : a ≤ l.length
  cut : l = flat ls ++ l.drop a
  low : Below w.heap.size w W

set_option maxRecDepth 20000 in
set_option maxHeartbeats 4000000 in
theorem read_any (hbat : BatchSays) (A : Option Addr) (c : Nat) (l : List UInt8) (w : World) (h : BufW.Data w w.heap.size l A c) (hl : l.length ≤ 1000000000) :
    Calls Try.prog 15 #[.slice A l.length c] w fun e w' => ∃ v, e = .returned (.tuple #[v, .int .i64 ((l.length - (Rec.read l).2.length : Nat) : Int)]) ∧ BatsAt w' w.heap.size v (Rec.read l).1 ∧ Below w.heap.size w w' := by
  have f0 : Fr w.heap.size never w (w.alloc (.cells #[.slice A l.length c, .int .i64 0] 69)) := (Fr.refl _ _ _).alloc (Nat.le_refl _) _
  have H0 : Hid (RS w (w.alloc (.cells #[.slice A l.length c, .int .i64 0] 69)) A c l w.heap.size [] (.slice none 0 0) 0) := hide
    ⟨⟨Bk.new _ _ _, Nat.le_refl _, h.fr f0 (fun _ _ h => h)⟩, BatsAt.nil _ _, (fun es he => by cases he), Nat.zero_le _, (by simp [flat]), f0.low⟩
  have HBAT := hide hbat
  have HL := hide hl
  clear hbat hl h f0
  go_enter Try.func15, Try.ntmps15
  go_wp2_with fail
  go_loopw [5] (fun o wr => ∃ (ls : List (List Ent)) (a : Nat), sliceLn o = ls.length ∧ Hid (RS w wr A c l w.heap.size ls o a)) (fun o _ => l.length - sliceLn o)
  case atStart => exact ⟨[], 0, rfl, H0⟩
  case round =>
    obtain ⟨ls, a, hsl, HS⟩ := hrel
    obtain ⟨Ao, co, rfl⟩ := HS.out.bats.form
    clear hsl
    have HB := hide (HBAT.out w.heap.size w.heap.size A c l a wr HS.out.rdr HS.out.le)
    unfold ptr at HB
    go_wp2_with fail
    refine HB.out.mono ?_
    intro e w3 hp
    cases hd : decB (l.drop a) with
    | none =>
      obtain ⟨rfl, hr3⟩ := hp.2.2 hd
      have q1 := hr3.bk.at_ (i := 1) (u := .int .i64 a) rfl
      have HP := hide hp.1
      have HR : Hid (Rec.read l = (ls, l.drop a)) := hide (by
        conv => lhs; rw [HS.out.cut]
        exact read_eq HS.out.ok hd)
      clear hp hd hr3
      go_wp2_with fail
      go_quiet (fail)
      go_wp2_with fail
      go_ret2
      rw [HR.out]
      have e : l.length - (l.drop a).length = a := by rw [List.length_drop]; have := HS.out.le; omega
      simp only [e]
      exact ⟨_, rfl, (HS.out.bats.fr HP.out (fun _ _ => by simp only [rdrT]; decide) (fun _ _ => by simp only [rdrT]; decide)).fr (T := never) (B := 0) ⟨below_drewN (Below.refl _ _) nq, fun _ _ h _ => h⟩ (fun _ _ h => h) (fun _ _ h => h), below_drewN (HS.out.low.trans HP.out.low) nq⟩
    | some p =>
      obtain ⟨es, rest⟩ := p
      obtain ⟨v3, rfl, hv3, hr3⟩ := hp.2.1 es rest hd
      obtain ⟨Ae, ce, rfl⟩ := hv3.form
      have hlw : w.heap.size ≤ wr.heap.size := HS.out.low.size
      have fa : Fr w.heap.size never w3 (w3.alloc (.cells #[.slice Ae es.length ce] 70)) := (Fr.refl _ _ _).alloc (Nat.le_trans hlw hp.1.size) _
      have HV := hide ((hv3.lower hlw).fr fa (fun _ _ h => h))
      have HBT := hide ((HS.out.bats.fr hp.1 (fun _ _ => by simp only [rdrT]; decide) (fun _ _ => by simp only [rdrT]; decide)).fr fa (fun _ _ h => h) (fun _ _ h => h))
      have HK := hide (Bk.new w3 70 #[.slice Ae es.length ce])
      have HRD := hide (hr3.fr fa (fun _ _ h => h) (fun _ _ h => h))
      have HLW := hide ((HS.out.low.trans hp.1.low).trans fa.low)
      have hcut := (decB_iff.1 hd)
      have HOK : Hid (∀ e ∈ ls ++ [es], okB e) := hide (fun e he => by
        rcases List.mem_append.1 he with he | he
        · exact HS.out.ok e he
        · have : e = es := by simpa using he
          subst this
          exact hcut.2)
      have hrl : rest.length ≤ l.length := by
        have := congrArg List.length hcut.1
        rw [List.length_drop, List.length_append] at this
        omega
      have hrest : rest = l.drop (l.length - rest.length) := by
        have h1 := hcut.1
        have h2 := congrArg List.length h1
        rw [List.length_drop, List.length_append] at h2
        have h3 : (l.drop a).drop (bat es).length = rest := by rw [h1, List.drop_left]
        rw [List.drop_drop] at h3
        have := bat_len es
        conv => lhs; rw [← h3]
        congr 1
        omega
      have HCUT : Hid (l = flat (ls ++ [es]) ++ l.drop (l.length - rest.length)) := hide (by
        rw [← hrest, flat_append]
        conv => lhs; rw [HS.out.cut, hcut.1]
        simp [flat])
      have HLEN : Hid ((ls.length + 1) * 5 ≤ l.length) := hide (by
        have h1 := flat_len (ls ++ [es])
        have h2 := congrArg List.length HCUT.out
        rw [List.length_append] at h2
        rw [List.length_append] at h1
        simp only [List.length_singleton] at h1
        omega)
      have HLS : Hid (ls.length ≤ 1000000000) := hide (by have := HLEN.out; have := HL.out; omega)
      have HSZ : Hid (w.heap.size ≤ (w3.alloc (.cells #[.slice Ae es.length ce] 70)).heap.size) := hide HLW.out.size
      have HRL := hide (show l.length - rest.length ≤ l.length by omega)
      clear hp hd hr3 hv3 hlw fa hcut hrl hrest
      go_wp2_with (first
        | (refine wpList_bat rfl (.tmp 23) (.tmp 25) rfl rfl HBT.out es Ae ce HV.out w3.heap.size 1 rfl HK.out HLS.out HSZ.out ?_
           intro A9 cap9 w9 hb9 hf9
           have HB9 := hide hb9
           have HR9 := hide (HRD.out.fr hf9 (fun _ _ => by simp only [rowK]; decide) (fun _ _ => by simp only [rowK]; decide))
           have HL9 := hide (HLW.out.trans hf9.low)
           clear hb9 hf9)
        | fail)
      all_goals go_roundw
      all_goals (first
        | exact ⟨ls ++ [es], l.length - rest.length, by simp [sliceLn], hide ⟨HR9.out, HB9.out, HOK.out, HRL.out, HCUT.out, HL9.out⟩⟩
        | (have := HLEN.out; simp only [sliceLn]; omega))
end Go.Proofs.Ytndhmdengadmjaa.RecW
