/- granarytop.one in company, and a call of it. -/
import Derived.Test.YtlaipigilikmbaaMa30
import Derived.Test.YtlaipigilikmbaaOneWMa
set_option linter.unusedVariables false
namespace Go.Proofs.Ytlaipigilikmbaa.OneW
open Go Go.Conc Go.RowKit Go.Proofs Go.Proofs.Ytlaipigilikmbaa Go.Proofs.Ytlaipigilikmbaa.Co Go.Proofs.Ytlaipigilikmbaa.Cl Go.Proofs.Ytlaipigilikmbaa.Ph Go.Proofs.Ytlaipigilikmbaa.LwW
attribute [local irreducible] kC kE Fram.pack
noncomputable def oo (i j : Nat) : Oper := ((opsOf (kC i))[j]?).getD ⟨none, .move (.tmp 0), 0, "", #[], none⟩
theorem oneF : Try.prog.funcs[7]? = some Try.f7 := Try.func7
theorem oneB : Try.f7.body = some (kE 0) := by kernel_rfl
theorem ok1 (ro : Nat → Prop) : Co.OkCode Try.prog (EN ro) (kC 1) := en_code ro _ (by decide +kernel)
theorem ok3 (ro : Nat → Prop) : Co.OkCode Try.prog (EN ro) (kC 3) := en_code ro _ (by decide +kernel)
theorem ok4 (ro : Nat → Prop) : Co.OkCode Try.prog (EN ro) (kE 4) := en_code ro _ (by decide +kernel)
theorem kr0 : kC 0 = .region 0 (opsOf (kC 0)) false := by kernel_rfl
theorem ks0 : (opsOf (kC 0)).size = 1 := by kernel_rfl
theorem ko0_0 : (opsOf (kC 0))[0]? = some (oo 0 0) := by kernel_rfl
theorem h0_0 : Hands (oo 0 0) 0 (.const (.bool false)) := ⟨by kernel_rfl, .inr (by kernel_rfl), by kernel_rfl⟩
theorem kr2 : kC 2 = .region 2 (opsOf (kC 2)) false := by kernel_rfl
theorem ks2 : (opsOf (kC 2)).size = 8 := by kernel_rfl
theorem ko2_0 : (opsOf (kC 2))[0]? = some (oo 2 0) := by kernel_rfl
theorem ko2_1 : (opsOf (kC 2))[1]? = some (oo 2 1) := by kernel_rfl
theorem ko2_2 : (opsOf (kC 2))[2]? = some (oo 2 2) := by kernel_rfl
theorem ko2_3 : (opsOf (kC 2))[3]? = some (oo 2 3) := by kernel_rfl
theorem ko2_4 : (opsOf (kC 2))[4]? = some (oo 2 4) := by kernel_rfl
theorem ko2_5 : (opsOf (kC 2))[5]? = some (oo 2 5) := by kernel_rfl
theorem ko2_6 : (opsOf (kC 2))[6]? = some (oo 2 6) := by kernel_rfl
theorem ko2_7 : (opsOf (kC 2))[7]? = some (oo 2 7) := by kernel_rfl
theorem h2_0 : Hands (oo 2 0) 14 (.tmp 1) := ⟨by kernel_rfl, .inl (by kernel_rfl), by kernel_rfl⟩
theorem h2_1 : (oo 2 1).op = .buildSlice 39 1 #[(0, .tmp 14)] ∧ (oo 2 1).guard = none ∧ (oo 2 1).dst = some 15 := ⟨by kernel_rfl, by kernel_rfl, by kernel_rfl⟩
theorem h2_1b : okOpB Try.prog (fun i => okL.contains i) (fun i => exL.contains i) (oo 2 1).op = true := by kernel_rfl
theorem h2_1k (ro : Nat → Prop) : Co.OkOp Try.prog (EN ro) (oo 2 1).op := okOp_of (E := EN ro) rfl (exL_ok ro) h2_1b
theorem h2_1r (A : Option Addr) (n c : Nat) (w : World) : (execOp (fun _ => .slice A n c) (oo 2 1)).run Try.prog w = .ok (.value (.slice (some ⟨w.heap.size, 0, none⟩) 1 1)) { w with heap := w.heap.push (.cells #[.slice A n c] 22 (0, 0)) } := by kernel_rfl
theorem h2_2 : CallsOf (oo 2 2) 14 16 (.tmp 15) (.const (.int .i64 2)) := ⟨by kernel_rfl, by kernel_rfl, fun t' w => by kernel_rfl, fun t' w => by kernel_rfl⟩
theorem h2_3 : Hands (oo 2 3) 13 (.tmp 16) := ⟨by kernel_rfl, .inl (by kernel_rfl), by kernel_rfl⟩
theorem h2_4 : Parts (oo 2 4) 17 13 0 := ⟨by kernel_rfl, by kernel_rfl, by kernel_rfl⟩
theorem h2_5 : Parts (oo 2 5) 18 13 1 := ⟨by kernel_rfl, by kernel_rfl, by kernel_rfl⟩
theorem h2_6 : Hands (oo 2 6) 3 (.tmp 17) := ⟨by kernel_rfl, .inr (by kernel_rfl), by kernel_rfl⟩
theorem h2_7 : Hands (oo 2 7) 4 (.tmp 18) := ⟨by kernel_rfl, .inr (by kernel_rfl), by kernel_rfl⟩
theorem lat {t t' : Array Value} {S : List Nat} {d1 d2 : Nat} {a b v : Value} (h : Cl.Left t t' S d1 d2 a b) {s : Nat} (hs : s ∉ S) (hv : t[s]? = some v) : t'[s]? = some v := by rw [h.keep s hs]; exact hv
theorem kat {N : Nat} {S : List Nat} {t t' : Array Value} (h : Kp N S (fun i => t.getD i undef) t') {s : Nat} {v : Value} (hs : s ∈ S) (hv : t[s]? = some v) : t'[s]? = some v := by rw [h.2 s hs]; exact congrArg some (getD_of hv)
/-- The page that it packs. -/
noncomputable def pk1 : List UInt8 := Fram.pack 24 1 1 1 [5]
theorem opn_pk1 : opn pk1 = (1, 1, 1, 2) := by
  obtain ⟨h1, -, -, h2, h3, h4, -, -⟩ := OpenW.good_pack 24 1 1 1 [5] (by unfold PackW.Fits; simp) (by simp)
  have hl : pk1.length = 24 := Fram.pack_length 24 1 1 1 [5] (by simp)
  have e : pk1 = Fram.pack 24 (1 : Int).toNat (1 : Int).toNat (1 : Int).toNat [5] := rfl
  unfold opn
  rw [hl, if_pos (by rw [e]; exact h1), e, h2, h3, h4]
theorem pk1_found {l : List Fnd} (h : NewI (fun _ => pk1) 1 l) : l = [⟨1, 0, 1, 1⟩] := by
  have hc : Counts (fun _ => pk1) 0 := by unfold Counts; rw [opn_pk1]; exact ⟨rfl, .inl rfl⟩
  rw [one_page hc h]
  unfold fndOf
  rw [opn_pk1]
  rfl
section
variable {Q : Value → World → Prop} {W : World} {K Z : Nat → Prop} {t : Array Value} {w : World} {c : Frame} {cs : List Frame}
/-- From its beginning to its end. -/
theorem one_R {E : Env} (hE : ∃ ro, E = EN ro) (hl : LawOk E K W) (HKZ : ∀ x, K x → ¬ Z x) (HT : t.size = 51)
    (hk : ∀ Z' f w, (∀ x, K x → ¬ Z' x) → Side E K W Z' f w → Wins Try.prog Q Z' (G (c.finish (.bool true)) cs) w) : WinsR Try.prog Q E K W Z (c :: cs) 7 t [.code (kE 0)] .run w := by
  obtain ⟨ro, rfl⟩ := hE
  have hS : Sound Try.prog (EN ro) := en_sound ro
  rw [kE0]
  refine winsR_seq ?_
  rw [kr0]
  refine winsR_reg ?_
  rw [ks0, show List.range 1 = [0] from rfl]
  refine winsR_move hS (v := .bool false) (d := 0) (x := .const (.bool false)) ko0_0 h0_0.1 h0_0.2.1 h0_0.2.2 (fun ok f => .bool _) rfl (winsR_inDone ?_)
  have HT1 : (t.setIfInBounds 0 (.bool false)).size = 51 := by simpa using HT
  generalize t.setIfInBounds 0 (.bool false) = t1 at HT1 ⊢
  rw [kE1]
  refine winsR_seq ?_
  refine lwp hS (R := R1 w) ⟨_, oneF⟩ (ok1 _) (fun τ d => p1 (Co.re w τ d) t1 HT1) fun t2 u2 h2 => ?_
  obtain ⟨HT2, a2, hb2, D, n, a1, hn, ho⟩ := h2
  rw [kE2]
  refine winsR_seq ?_
  rw [kr2]
  refine winsR_newestZ hS hl HKZ (z := 2) (nw := 2) rfl (by omega) (by omega) (id := 2) (ops := opsOf (kC 2)) (p := 1) (s1 := 14) (s2 := 15) (s3 := 16) (s4 := 13) (e1 := 17) (e2 := 18) (d1 := 3) (d2 := 4) ks2 ko2_0 ko2_1 ko2_2 ko2_3 ko2_4 ko2_5 ko2_6 ko2_7 h2_0 h2_1 (h2_1k _) h2_1r h2_2 h2_3 h2_4 h2_5 h2_6 h2_7 (by decide) (by rw [HT2]; decide) (by rw [HT2]; decide) a1 (pg_own (own_of_hW ho) (by omega)) fun Z1 l1 D1 cap1 u3 t3 hN1 HKZ1 hb3 ho3 hl3 => ?_
  obtain rfl := pk1_found hN1
  replace hb3 : HB u2.heap u3.heap := .of hb3
  have HT3 := hl3.size.trans HT2
  obtain ⟨g, rfl, hc⟩ : ∃ g, D1 = some ⟨g, 0, none⟩ ∧ u3.cell? ⟨g, 0, none⟩ = some (.int .i64 1) := by
    obtain ⟨b, off, e1, e2, -⟩ := rdF_own ho3 0 (by decide)
    rcases ho3.2 with ⟨-, h0⟩ | ⟨g, _, _, hv, -⟩
    · simp at h0
    · injection hv with hv
      subst hv
      cases e1
      exact ⟨_, rfl, e2⟩
  rw [kE3]
  refine winsR_seq ?_
  refine lwp hS (R := R3 u3 fun i => t3.getD i undef) ⟨_, oneF⟩ (ok3 _) (fun τ d => p3 (Co.re u3 τ d) D n _ (by rw [Fram.pack_length 24 1 1 1 [5] (by simp)]) hn (Rd.of_own (hb3.own (own_of_hW ho))) t3 HT3 (lat hl3 (by decide) a1)) fun t4 u4 h4 => ?_
  obtain ⟨k4, hb4, a6, D5, c5, a5⟩ := h4
  refine lret hS (R := RX 51 0 (.bool true)) ⟨_, oneF⟩ (ok4 _) (fun τ d => p4 (Co.re u4 τ d) g cap1 c5 D5 (hb4.cell hc) t4 k4.1 (kat k4 (by decide) (lat hl3 (by decide) a2)) (kat k4 (by decide) hl3.one) (kat k4 (by decide) hl3.two) a5 a6) fun t5 u5 todo h5 => ?_
  refine winsR_leave oneF (v := .bool true) (fun τ d => (results_tmp rfl _ _ _).trans (by rw [Array.getD_eq_getD_getElem?, h5.2]; rfl)) fun f v' w' hv hw hs => ?_
  cases hv
  exact hk Z1 f w' HKZ1 hs
end
section
variable {Q : Value → World → Prop} {E : Env} {K Z : Nat → Prop} {W : World} {cs : List Frame} {fn : FuncId} {t : Array Value} {k : List Item} {w0 : World}
/-- Nothing is known. -/
noncomputable def e0 : World := { (default : World) with heap := Array.replicate Try.prog.globals.size (.cells #[] 0 (0, 0)) }
theorem e0_rel (ro : Nat → Prop) (w : World) (hro : ∀ x, ¬ ro x) : WR (EN ro) (fun _ => none) (Co.re e0 w.tape w.drawn) w := by
  refine ⟨rfl, rfl, fun r r' h => (by cases h), fun r s x h => (by cases h), fun r r' o h => (by cases h), fun x h1 h2 => absurd h2 (hro x), fun r r' h => (by cases h), fun r hr => ⟨0, ?_⟩, ?_⟩
  · show e0.heap[r]? = _
    unfold e0
    rw [Array.getElem?_replicate, if_pos (show r < Try.prog.globals.size from hr)]
  · show _ ≤ e0.heap.size
    simp [e0, EN]
/-- A CALL OF one. -/
theorem winsR_one {ops : Array Oper} {i : Nat} {rest : List Nat} {o : Oper} (hl : LawOk E K W) (hKZ : ∀ x, K x → ¬ Z x)
    (ho : ops[i]? = some o) (hw : ∀ t', Region.wanted o (yielded ops t') = true)
    (hr : ∀ t' w, (execOp (Act.eval ⟨t', []⟩) o).run Try.prog w = .ok (.enter 7 #[]) w) (hev : ∀ t' w, (execOp (Act.eval ⟨t', []⟩) o).events Try.prog w #[] = #[])
    (hk : ∀ Z', (∀ x, K x → ¬ Z' x) → WinsR Try.prog Q E K W Z' cs fn (Act.put ⟨t, []⟩ o.dst (.bool true)).tmps (.inRegion ops rest :: k) .run w0) : WinsR Try.prog Q E K W Z cs fn t (.inRegion ops (i :: rest) :: k) .run w0 := by
  intro f t' w ha hwr hs
  have hlow : ∀ x, x ≤ Try.prog.globals.size → x < w.heap.size ∧ ¬ Z x := fun x hx => ⟨hs.low x (hl.low x hx), hKZ x (hl.low x hx)⟩
  refine wins_step rfl fun τ d => ⟨G (Frame.enter Try.prog 7 #[] .normal) (Co.fr fn t' (.inRegion ops (i :: rest) :: k) .run :: cs), w, d, #[], ?_, Nat.le_refl _, fun e he => by simp at he, ?_⟩
  · have hst := stepG_enter (P := Try.prog) (main := true) (b := base fn) (a := ⟨t', []⟩) (k := k) (cs := cs) (rest := rest) ho (hw t') (by simp [base]) (hr t' (Co.re w τ d))
    have hls : listed Try.prog (base fn).fn ⟨t', []⟩ o (Co.re w τ d) = #[] := by
      unfold listed
      rw [hev]
      rfl
    rw [hls] at hst
    exact hst
  · rw [Go.Conc.enter_at #[] oneF oneB]
    have hfin : ∀ v, (Co.fr fn t' (.inRegion ops (i :: rest) :: k) .run).finish v = Co.fr fn (Act.put ⟨t', []⟩ o.dst v).tmps (.inRegion ops rest :: k) .run := fun v => by
      have := finish_fr (y := ⟨fn, t', .inRegion ops (i :: rest) :: k, false⟩) (v := v) rfl
      rw [ho] at this
      exact this
    have hlo : LawOk (EN fun _ => False) (fun x => x < w.heap.size ∧ ¬ Z x) w := ⟨rfl, hlow, fun E o h => hl.ty E o (by rw [← hs.old _ (hl.low _ (Nat.le_refl _))]; exact h)⟩
    refine one_R (E := EN fun _ => False) (K := fun x => x < w.heap.size ∧ ¬ Z x) (W := w) (Z := Z) (w := e0) (t := #[] ++ Array.replicate (Try.f7.ntmps - (#[] : Array Value).size) undef) ⟨_, rfl⟩ hlo (fun x h => h.2) (by simp [Try.ntmps7]) (fun Z' f' w' hz' hs' => ?_) (fun _ => none) _ w ?_ (e0_rel _ w fun _ h => h) ⟨fun _ _ => rfl, fun x h => h.1, fun x h => ?_, hs.zed, fun x h => h.elim, Nat.le_refl _, rfl, rfl⟩
    · rw [hfin]
      have hrel : WR E f (Co.re w0 w'.tape w'.drawn) w' := hwr.rely ⟨hs'.size, fun y hy hy2 => hs'.old y ⟨hy2, by
        rcases hy with h | h
        · exact (hs.own y h).2
        · exact (hs.ro y h).2⟩⟩
      have rg : ∀ {r y}, f r = some y → y < w.heap.size := fun h => (hwr.lt h).2
      have hW := hk Z' fun x hx => hz' x ⟨hs.low x hx, hKZ x hx⟩
      refine hW f _ w' (put_rel ha ?_ _) hrel ?_
      · exact .bool true
      · refine ⟨fun y hy => ?_, fun y hy => Nat.lt_of_lt_of_le (hs.low y hy) hs'.size, fun y hy => ?_, hs'.zed, fun y hy => ?_, Nat.le_trans hs.size hs'.size, hs'.still.1.trans hs.still.1, hs'.still.2.trans hs.still.2⟩
        · rw [hs'.old y ⟨hs.low y hy, hKZ y hy⟩]
          exact hs.old y hy
        · refine ⟨(hs.own y hy).1, hz' y ⟨?_, (hs.own y hy).2⟩⟩
          obtain ⟨⟨r, er⟩, -⟩ := hy
          exact rg er
        · exact ⟨Nat.lt_of_lt_of_le (hs.ro y hy).1 hs'.size, hz' y (hs.ro y hy)⟩
    · exact AR.append AR.empty (AR.flat fun u hu => by obtain ⟨-, rfl⟩ := Array.mem_replicate.1 hu; exact undef_flat)
    · obtain ⟨⟨r, e⟩, -⟩ := h
      cases e
end
end Go.Proofs.Ytlaipigilikmbaa.OneW
