/- The walks of pool's Take, Give, Retire. -/
import Derived.Test.YthaoiilghphbiaaDoorPoolNew
set_option linter.unusedVariables false
namespace Go.Proofs.YthaoiilghphbiaaDoor.PoolW
open Go.RowKit HeapP HeapW I64

section
variable {n : Nat} {st wr : List Int} {l l' : List (Int × Int)} {b : Nat}
theorem free_other (h : Free n st wr l) (h0 : st.getD b 0 ≠ 0) {v : Int} (hv : v ≠ 0) (hl : st.length = n) : Free n (st.set b v) wr l := by
  refine ⟨h.1, fun e => (h.2 e).trans ?_⟩
  constructor
  · rintro ⟨k, hk, hk0, rfl⟩
    refine ⟨k, hk, ?_, rfl⟩
    rw [I64.getD_set_ne _ _ _ _ (fun e => by subst e; exact h0 hk0)]
    exact hk0
  · rintro ⟨k, hk, hk0, rfl⟩
    refine ⟨k, hk, ?_, rfl⟩
    by_cases e : b = k
    · subst e
      rw [I64.getD_set_eq _ _ _ (by omega)] at hk0
      exact absurd hk0 hv
    · rwa [I64.getD_set_ne _ _ _ _ e] at hk0
theorem free_take (h : Free n st wr l) (hl : st.length = n) (hb : b < n) (h0 : st.getD b 0 = 0) (hp : (l' ++ [(wr.getD b 0, (b : Int))]).Perm l) : Free n (st.set b 1) wr l' := by
  have hnd := (hp.nodup_iff).2 h.1
  rw [List.nodup_append] at hnd
  refine ⟨hnd.1, fun e => ?_⟩
  have hm : e ∈ l' ↔ e ∈ l ∧ e ≠ (wr.getD b 0, (b : Int)) := by
    rw [← hp.mem_iff]
    constructor
    · intro h1
      exact ⟨List.mem_append_left _ h1, hnd.2.2 e h1 _ (by simp)⟩
    · rintro ⟨h1, h2⟩
      rcases List.mem_append.1 h1 with h1 | h1
      · exact h1
      · exact absurd (by simpa using h1) h2
  rw [hm, h.2 e]
  constructor
  · rintro ⟨⟨k, hk, hk0, rfl⟩, hne⟩
    have hkb : b ≠ k := fun e => hne (by subst e; rfl)
    exact ⟨k, hk, by rw [I64.getD_set_ne _ _ _ _ hkb]; exact hk0, rfl⟩
  · rintro ⟨k, hk, hk0, rfl⟩
    have hkb : b ≠ k := by
      rintro rfl
      rw [I64.getD_set_eq _ _ _ (by omega)] at hk0
      omega
    rw [I64.getD_set_ne _ _ _ _ hkb] at hk0
    refine ⟨⟨k, hk, hk0, rfl⟩, fun e => ?_⟩
    injection e with _ e
    omega
theorem free_give (h : Free n st wr l) (hl : st.length = n) (hw : wr.length = n) (hb : b < n) (h0 : st.getD b 0 ≠ 0) {x : Int} (hp : l'.Perm (l ++ [(x, (b : Int))])) : Free n (st.set b 0) (wr.set b x) l' := by
  have hno : ∀ e ∈ l, e.2 ≠ (b : Int) := by
    intro e he e2
    obtain ⟨k, hk, hk0, rfl⟩ := (h.2 e).1 he
    simp only at e2
    have : k = b := by omega
    subst this
    exact h0 hk0
  refine ⟨?_, fun e => ?_⟩
  · rw [hp.nodup_iff, List.nodup_append]
    refine ⟨h.1, by simp, fun a ha c hc => ?_⟩
    have : c = (x, (b : Int)) := by simpa using hc
    subst this
    intro e
    exact hno a ha (by rw [e])
  · rw [hp.mem_iff, List.mem_append]
    constructor
    · rintro (he | he)
      · have hne := hno e he
        obtain ⟨k, hk, hk0, rfl⟩ := (h.2 e).1 he
        have hkb : b ≠ k := fun e => hne (by subst e; rfl)
        exact ⟨k, hk, by rw [I64.getD_set_ne _ _ _ _ hkb]; exact hk0, by rw [I64.getD_set_ne _ _ _ _ hkb]⟩
      · have : e = (x, (b : Int)) := by simpa using he
        subst this
        exact ⟨b, hb, I64.getD_set_eq _ _ _ (by omega), by rw [I64.getD_set_eq _ _ _ (by omega)]⟩
    · rintro ⟨k, hk, hk0, rfl⟩
      by_cases e : b = k
      · subst e
        right
        rw [I64.getD_set_eq _ _ _ (by omega)]
        simp
      · left
        rw [I64.getD_set_ne _ _ _ _ e] at hk0 ⊢
        exact (h.2 _).2 ⟨k, hk, hk0, rfl⟩
theorem vals_set (h : ∀ k, k < n → st.getD k 0 = 0 ∨ st.getD k 0 = 1 ∨ st.getD k 0 = 2) (hl : st.length = n) (hb : b < n) {v : Int} (hv : v = 0 ∨ v = 1 ∨ v = 2) : ∀ k, k < n → (st.set b v).getD k 0 = 0 ∨ (st.set b v).getD k 0 = 1 ∨ (st.set b v).getD k 0 = 2 := by
  intro k hk
  by_cases e : b = k
  · subst e; rw [I64.getD_set_eq _ _ _ (by omega)]; exact hv
  · rw [I64.getD_set_ne _ _ _ _ e]; exact h k hk
theorem ge_ne {w : World} {ge cap x : Nat} {l : List (Int × Int)} {cs : Array Value} (h : EB w ge cap l) (hb : Bk w x 3 cs) : x ≠ ge := by
  obtain ⟨cur, h1, -⟩ := h
  exact bk_ne2 hb h1 (by decide)
end

theorem plFar {w : World} {g ge cap x : Nat} {sp S1 S2 : Value} {l : List (Int × Int)} (h : PL w g ge cap sp S1 S2 l) (h1 : g ≠ x) (h2 : ge ≠ x) (k : Nat) (u : Value) : PL (w.setCell ⟨x, k, none⟩ u) g ge cap sp S1 S2 l :=
  ⟨h.1.far h1 u, h.2.1.block (Below.heap_setCell w ⟨x, k, none⟩ u ge h2), h.2.2⟩
theorem el_get {l : List (Int × Int)} {i : Nat} (h : i < l.length) : el l i = l[i] := by simp [el, List.getD, h]

theorem Chg.bk {w w' : World} {a b x : Nat} {t : TypeId} {cs : Array Value} (h : Chg w w' a b) (hb : Bk w x t cs) (h1 : x ≠ a) (h2 : x ≠ b) : Bk w' x t cs := (h.2.2.2.2 x hb.lt h1 h2).trans hb

/-- The pool's blocks, from outside. -/
theorem Parts.far {w w' : World} {B : Nat} {P : Nat → Prop} {g n : Nat} {sp : Int} {st wr : List Int} {ga gb ge cap : Nat} {hp : List (Int × Int)} (h : Parts w B P g n sp st wr ga gb ge cap hp) (hh : ∀ x, x = g ∨ x = ga ∨ x = gb ∨ x = ge → w'.heap[x]? = w.heap[x]?) : Parts w' B P g n sp st wr ga gb ge cap hp :=
  { h with pl := ⟨(hh g (.inl rfl)).trans h.pl.1, h.pl.2.1.block (hh ge (by simp)), h.pl.2.2⟩, bs := (hh ga (by simp)).trans h.bs, bw := (hh gb (by simp)).trans h.bw }

attribute [local irreducible] swp el lt EB Hp flat zeros fcode

def TakePost (w : World) (B : Nat) (P : Nat → Prop) (g n : Nat) (sp : Int) (st wr : List Int) (e : Ending) (w' : World) : Prop :=
  Keeps B P w w' ∧ ((sp < (st.count 2 : Nat) ∧ e = .returned (.tuple #[.int .i64 0, errV 9]) ∧ PoolAt w' B P g n sp st wr) ∨
    (((st.count 2 : Nat) : Int) ≤ sp ∧ (∀ k, k < n → st.getD k 0 ≠ 0) ∧ e = .returned (.tuple #[.int .i64 0, errV 4]) ∧ PoolAt w' B P g n sp st wr) ∨
    (((st.count 2 : Nat) : Int) ≤ sp ∧ ∃ b : Nat, b < n ∧ st.getD b 0 = 0 ∧ (∀ k : Nat, k < n → st.getD k 0 = 0 → ¬ lt (wr.getD k 0, (k : Int)) (wr.getD b 0, (b : Int))) ∧ e = .returned (.tuple #[.int .i64 (b : Int), .nilIface]) ∧ PoolAt w' B P g n sp (st.set b 1) wr))

set_option maxRecDepth 100000 in
set_option maxHeartbeats 4000000 in
theorem take_any (B : Nat) (P : Nat → Prop) (g n : Nat) (sp : Int) (st wr : List Int) (w : World) (h : PoolAt w B P g n sp st wr) :
    Calls Tryd.prog 22 #[.pointer (some ⟨g, 0, none⟩)] w (TakePost w B P g n sp st wr) := by
  have H := hide h
  obtain ⟨ga, gb, ge, cap, hp, h⟩ := h
  have hBs := h.hB
  have HP0 := hide h
  clear h
  by_cases h9 : sp < (st.count 2 : Nat)
  · have HC := hide h9
    have hd : decide (sp < (st.count 2 : Nat)) = true := decide_eq_true h9
    clear h9
    go_enter Tryd.func22, Tryd.ntmps22
    go_wp2_with fail
    refine (latched_any B P g n sp st wr _ H.out).mono ?_
    rintro e w1 ⟨rfl, hb⟩
    rw [hd]
    go_wp2_with fail
    go_ret2
    exact ⟨Keeps.of_below hb hBs, .inl ⟨HC.out, rfl, H.out.below hb⟩⟩
  have hd : decide (sp < (st.count 2 : Nat)) = false := decide_eq_false h9
  have HC := hide (Int.not_lt.1 h9)
  clear h9
  by_cases hnil : hp.length = 0
  · have HNO : Hid (∀ k, k < n → st.getD k 0 ≠ 0) := hide fun k hk h0 => by
      have := (HP0.out.free.2 (wr.getD k 0, (k : Int))).2 ⟨k, hk, h0, rfl⟩
      rw [List.eq_nil_of_length_eq_zero hnil] at this
      simp at this
    go_enter Tryd.func22, Tryd.ntmps22
    go_wp2_with fail
    refine (latched_any B P g n sp st wr _ H.out).mono ?_
    rintro e w1 ⟨rfl, hb⟩
    rw [hd]
    have q3 := (HP0.out.below hb).pl.1.at_ (i := 3) (u := .slice (some ⟨ge, 0, none⟩) hp.length cap) rfl
    rw [hnil] at q3
    go_wp2_with fail
    go_ret2
    exact ⟨Keeps.of_below hb hBs, .inr (.inl ⟨HC.out, HNO.out, rfl, H.out.below hb⟩)⟩
  obtain ⟨m, hm⟩ : ∃ m, hp.length = m + 1 := ⟨hp.length - 1, by omega⟩
  have HM := hide hm
  have hml : m + 1 ≤ 64 := by have := HP0.out.free.le; have := HP0.out.most; omega
  have hmem : el hp 0 ∈ hp := el_mem (by omega)
  obtain ⟨b, hbn, hb0, hbe⟩ := (HP0.out.free.2 _).1 hmem
  have HB0 := hide hb0
  have HMIN : Hid (∀ k : Nat, k < n → st.getD k 0 = 0 → ¬ lt (wr.getD k 0, (k : Int)) (wr.getD b 0, (b : Int))) := hide fun k hk hk0 => by
    have h1 := (HP0.out.free.2 _).2 ⟨k, hk, hk0, rfl⟩
    obtain ⟨i, hi, e⟩ := List.getElem_of_mem h1
    have := hp_root HP0.out.heap i (by omega)
    rw [hbe, el_get hi, e] at this
    exact this
  obtain ⟨x, hx⟩ : ∃ x, x = wr.getD b 0 := ⟨_, rfl⟩
  rw [← hx] at hbe
  have HBE := hide hbe
  have HX := hide hx
  have hmost := HP0.out.most
  have hta := assert_entry
  clear hmem hb0 hbe hm hnil hx
  go_enter Tryd.func22, Tryd.ntmps22
  go_wp2_with fail
  refine (latched_any B P g n sp st wr _ H.out).mono ?_
  rintro e w1 ⟨rfl, hb⟩
  rw [hd]
  have HP1 := hide (HP0.out.below hb)
  have q3 := HP1.out.pl.1.at_ (i := 3) (u := .slice (some ⟨ge, 0, none⟩) hp.length cap) rfl
  rw [HM.out] at q3
  have hlz : (((m : Int) + 1) == 0) = false := by simp; omega
  go_wp2_with fail
  refine (heapPop_any g ge cap m _ _ _ hp _ HP1.out.pl HM.out (by omega) HP1.out.heap).mono ?_
  rintro e w2 ⟨l', rfl, hpl, hhp, hperm, hchg⟩
  rw [HBE.out] at hperm ⊢
  have nga := bk_ne HP1.out.pl.1 HP1.out.bs (by decide)
  have ngb := bk_ne HP1.out.pl.1 HP1.out.bw (by decide)
  have nea := ge_ne HP1.out.pl.2.1 HP1.out.bs
  have neb := ge_ne HP1.out.pl.2.1 HP1.out.bw
  have bs2 := Chg.bk hchg HP1.out.bs (Ne.symm nga) nea
  have bw2 := Chg.bk hchg HP1.out.bw (Ne.symm ngb) neb
  have HP2 : Hid (Parts w2 B P g n sp (st.set b 1) wr ga gb ge cap l' ∨ True) := hide (.inr trivial)
  have hk2 : Keeps B P w w2 := (Keeps.of_below hb hBs).trans (Keeps.chg hchg HP1.out.ig HP1.out.ie HP1.out.hB)
  have HPL := hide hpl
  have HHP := hide hhp
  have HPE := hide hperm
  clear HP2 q3 hlz hchg hpl hhp hperm
  have hA : Below w2.heap.size w2 (w2.alloc (.cells #[.int .i64 x, .int .i64 (b : Int)] 77)) := (Below.refl _ _).alloc (Nat.le_refl _) _
  have q1 := (HPL.out.1.below hA HPL.out.1.lt).at_ (i := 1) (u := .slice (some ⟨ga, 0, none⟩) n n) rfl
  have HSA := hide (bs2.below hA bs2.lt)
  have hcell := HSA.out.at_ (i64v_at st b (by rw [HP0.out.ls]; exact hbn))
  rw [HB0.out] at hcell
  have f1 := HSA.out.free b
  have hlta := bs2.lt
  have hltg := HPL.out.1.lt
  have HSL := hide HP0.out.ls
  go_wp2_with fail
  go_region
  go_wp2_with fail
  go_ret2
  refine ⟨(hk2.trans ((Keeps.set w2 (p := ⟨ga, b, none⟩) HP0.out.ia _).trans (Keeps.of_below ((Below.refl _ _).alloc (Nat.le_refl _) _) ?_))).drew, .inr (.inr ⟨HC.out, b, hbn, HB0.out, HMIN.out, rfl, ?_⟩)⟩
  · have h1 := HP0.out.ig.1
    have h2 : (w2.setCell ⟨ga, b, none⟩ (.int .i64 1)).heap.size = w2.heap.size := by simp [World.setCell]
    omega
  · have P3 : Parts (w2.setCell ⟨ga, b, none⟩ (.int .i64 1)) B P g n sp (st.set b 1) wr ga gb ge cap l' :=
      { pl := plFar HPL.out nga (Ne.symm nea) _ _, bs := by { have := bs2.put b (.int .i64 1); rwa [i64v_set] at this }, bw := bw2.far (Ne.symm HP0.out.ne) _, ls := by rw [List.length_set]; exact HSL.out, lw := HP0.out.lw, ne := HP0.out.ne,
        ig := HP0.out.ig, ia := HP0.out.ia, ib := HP0.out.ib, ie := HP0.out.ie, heap := HHP.out, free := free_take HP0.out.free HSL.out hbn HB0.out (by rw [← HX.out]; exact HPE.out), pos := HP0.out.pos, most := HP0.out.most, vals := vals_set HP0.out.vals HSL.out hbn (.inr (.inl rfl)) }
    exact ⟨ga, gb, ge, cap, l', P3.below (((Below.refl _ _).alloc (Nat.le_refl _) _).drew)⟩

def PutPost (w : World) (B : Nat) (P : Nat → Prop) (g n : Nat) (sp : Int) (st wr : List Int) (b : Int) (st' wr' : List Int) (e : Ending) (w' : World) : Prop :=
  Keeps B P w w' ∧ ((fcode n sp st b = 0 ∧ e = .returned .nilIface ∧ PoolAt w' B P g n sp st' wr') ∨ (∃ c : Int, fcode n sp st b = c ∧ c ≠ 0 ∧ e = .returned (errV c) ∧ PoolAt w' B P g n sp st wr))

theorem fcode_zero {n : Nat} {sp : Int} {st : List Int} {b : Int} (h : fcode n sp st b = 0) : 0 ≤ b ∧ b < n ∧ st.getD b.toNat 0 = 1 := by
  unfold fcode at h
  by_cases h1 : sp < (st.count 2 : Nat)
  · rw [if_pos h1] at h; omega
  rw [if_neg h1] at h
  by_cases h2 : ¬ (0 ≤ b ∧ b < n)
  · rw [if_pos h2] at h; omega
  rw [if_neg h2] at h
  by_cases h3 : st.getD b.toNat 0 = 1
  · exact ⟨by omega, by omega, h3⟩
  · rw [if_neg h3] at h; omega

set_option maxHeartbeats 2000000 in
theorem retire_any (B : Nat) (P : Nat → Prop) (g n : Nat) (sp : Int) (st wr : List Int) (b : Int) (w : World) (h : PoolAt w B P g n sp st wr) :
    Calls Tryd.prog 24 #[.pointer (some ⟨g, 0, none⟩), .int .i64 b] w (PutPost w B P g n sp st wr b (st.set b.toNat 2) wr) := by
  have H := hide h
  obtain ⟨ga, gb, ge, cap, hp, h⟩ := h
  have hBs := h.hB
  have hmost := h.most
  have HP0 := hide h
  clear h
  go_enter Tryd.func24, Tryd.ntmps24
  go_wp2_with fail
  refine (fault_any B P g n sp st wr b _ H.out).mono ?_
  rintro e w1 ⟨hb, ⟨hc, rfl⟩ | ⟨c, hc, hc0, rfl⟩⟩
  · obtain ⟨i1, i2, h1⟩ := fcode_zero hc
    obtain ⟨k, rfl⟩ := Int.eq_ofNat_of_zero_le i1
    rw [Int.toNat_natCast] at h1
    have HP1 := hide (HP0.out.below hb)
    have HC := hide hc
    have H1 := hide h1
    have q1 := HP1.out.pl.1.at_ (i := 1) (u := .slice (some ⟨ga, 0, none⟩) n n) rfl
    have hcell := HP1.out.bs.at_ (i64v_at st k (by rw [HP1.out.ls]; omega))
    rw [h1] at hcell
    have f1 := HP1.out.bs.free k
    clear hc h1
    go_wp2_with fail
    go_ret
    have nga := bk_ne HP1.out.pl.1 HP1.out.bs (by decide)
    have nea := ge_ne HP1.out.pl.2.1 HP1.out.bs
    refine ⟨(Keeps.of_below hb hBs).trans (Keeps.set w1 (p := ⟨ga, k, none⟩) HP1.out.ia _), .inl ⟨HC.out, rfl, ?_⟩⟩
    rw [Int.toNat_natCast]
    refine ⟨ga, gb, ge, cap, hp, ?_⟩
    exact
      { pl := plFar HP1.out.pl nga (Ne.symm nea) _ _
        bs := by { have := HP1.out.bs.put k (.int .i64 2); rwa [i64v_set] at this }
        bw := HP1.out.bw.far (Ne.symm HP1.out.ne) _
        ls := by { rw [List.length_set]; exact HP1.out.ls }
        lw := HP1.out.lw
        ne := HP1.out.ne
        ig := HP1.out.ig
        ia := HP1.out.ia
        ib := HP1.out.ib
        ie := HP1.out.ie
        heap := HP1.out.heap
        free := free_other HP1.out.free (by rw [H1.out]; omega) (by omega) HP1.out.ls
        pos := HP1.out.pos
        most := HP1.out.most
        vals := vals_set HP1.out.vals HP1.out.ls (by omega) (.inr (.inr rfl)) }
  · have HC := hide hc
    have HC0 := hide hc0
    clear hc hc0
    unfold errV
    go_wp2_with fail
    go_ret
    exact ⟨Keeps.of_below hb hBs, .inr ⟨c, HC.out, HC0.out, rfl, H.out.below hb⟩⟩

set_option maxRecDepth 100000 in
set_option maxHeartbeats 4000000 in
theorem give_any (B : Nat) (P : Nat → Prop) (g n : Nat) (sp : Int) (st wr : List Int) (b : Int) (w : World) (h : PoolAt w B P g n sp st wr) (hD : ∀ y, P y → y < w.heap.size) (hw0 : -4611686018427387904 ≤ wr.getD b.toNat 0) (hw1 : wr.getD b.toNat 0 ≤ 9223372036854775806) :
    Calls Tryd.prog 23 #[.pointer (some ⟨g, 0, none⟩), .int .i64 b] w (PutPost w B P g n sp st wr b (st.set b.toNat 0) (wr.set b.toNat (wr.getD b.toNat 0 + 1))) := by
  have H := hide h
  obtain ⟨ga, gb, ge, cap, hp, h⟩ := h
  have hBs := h.hB
  have hmost := h.most
  have HP0 := hide h
  clear h
  obtain ⟨x, hx⟩ : ∃ x, x = wr.getD b.toNat 0 := ⟨_, rfl⟩
  rw [← hx] at hw0 hw1 ⊢
  have HX := hide hx
  clear hx
  go_enter Tryd.func23, Tryd.ntmps23
  go_wp2_with fail
  refine (fault_any B P g n sp st wr b _ H.out).mono ?_
  rintro e w1 ⟨hb, ⟨hc, rfl⟩ | ⟨c, hc, hc0, rfl⟩⟩
  · obtain ⟨i1, i2, h1⟩ := fcode_zero hc
    obtain ⟨k, rfl⟩ := Int.eq_ofNat_of_zero_le i1
    rw [Int.toNat_natCast] at h1 HX
    have HP1 := hide (HP0.out.below hb)
    have HC := hide hc
    have H1 := hide h1
    have nga := bk_ne HP1.out.pl.1 HP1.out.bs (by decide)
    have ngb := bk_ne HP1.out.pl.1 HP1.out.bw (by decide)
    have nea := ge_ne HP1.out.pl.2.1 HP1.out.bs
    have neb := ge_ne HP1.out.pl.2.1 HP1.out.bw
    have nab := HP1.out.ne
    have q2 := HP1.out.pl.1.at_ (i := 2) (u := .slice (some ⟨gb, 0, none⟩) n n) rfl
    have cb := HP1.out.bw.at_ (i64v_at wr k (by rw [HP1.out.lw]; omega))
    rw [← HX.out] at cb
    have fb := HP1.out.bw.free k
    have PL2 := plFar HP1.out.pl (x := gb) ngb (Ne.symm neb) k (.int .i64 (x + 1))
    have B2 := HP1.out.bs.far (p := ⟨gb, k, none⟩) nab (.int .i64 (x + 1))
    have W2 := HP1.out.bw.put k (.int .i64 (x + 1))
    rw [i64v_set] at W2
    have q1' := PL2.1.at_ (i := 1) (u := .slice (some ⟨ga, 0, none⟩) n n) rfl
    have ca' := B2.at_ (i64v_at st k (by rw [HP1.out.ls]; omega))
    rw [h1] at ca'
    have fa' := B2.free k
    have PL3 := plFar PL2 (x := ga) nga (Ne.symm nea) k (.int .i64 0)
    have B3 := B2.put k (.int .i64 0)
    rw [i64v_set] at B3
    have W3 := W2.far (p := ⟨ga, k, none⟩) (Ne.symm nab) (.int .i64 0)
    have q2' := PL3.1.at_ (i := 2) (u := .slice (some ⟨gb, 0, none⟩) n n) rfl
    have cb' := W3.at_ (i64v_at (wr.set k (x + 1)) k (by rw [List.length_set, HP1.out.lw]; omega))
    rw [I64.getD_set_eq _ _ _ (by rw [HP1.out.lw]; omega)] at cb'
    have hk3 : Keeps B P w ((w1.setCell ⟨gb, k, none⟩ (.int .i64 (x + 1))).setCell ⟨ga, k, none⟩ (.int .i64 0)) := (Keeps.of_below hb hBs).trans ((Keeps.set w1 (p := ⟨gb, k, none⟩) HP1.out.ib _).trans (Keeps.set _ (p := ⟨ga, k, none⟩) HP1.out.ia _))
    have hBs3 : B ≤ ((w1.setCell ⟨gb, k, none⟩ (.int .i64 (x + 1))).setCell ⟨ga, k, none⟩ (.int .i64 0)).heap.size := Nat.le_trans hBs hk3.1.size
    have hDs3 : ∀ y, P y → y < ((w1.setCell ⟨gb, k, none⟩ (.int .i64 (x + 1))).setCell ⟨ga, k, none⟩ (.int .i64 0)).heap.size := fun y hy => Nat.lt_of_lt_of_le (hD y hy) hk3.1.size
    have HPL3 := hide PL3
    have HB3 := hide B3
    have HW3 := hide W3
    have HLE : Hid (hp.length ≤ 4000) := hide (by have := HP1.out.free.le; omega)
    have HPUSH := hide (heapPush_any g ge cap _ _ _ hp (x + 1) k _ (HPL3.out.below (Below.refl _ _).drew) HLE.out HP1.out.heap)
    clear hc h1 PL2 B2 W2 PL3 B3 W3
    go_wp2_with fail
    go_region_with (first
      | (go_at_call 44
         refine HPUSH.out.mono ?_
         rintro e w4 ⟨ge', cap', l', rfl, hpl4, hhp4, hperm4, hor4, hchg4⟩))
    all_goals
      go_wp2_with fail
      go_ret
      rw [Int.toNat_natCast]
      refine ⟨hk3.drew.trans (Keeps.chg hchg4 HP1.out.ig HP1.out.ie hBs3), .inl ⟨HC.out, rfl, ga, gb, ge', cap', l', ?_⟩⟩
      have hie : In B P ge' := by
        rcases hor4 with h | h
        · rw [h]; exact HP1.out.ie
        · exact ⟨Nat.le_trans hBs3 h, fun h2 => Nat.not_lt.2 h (hDs3 _ h2)⟩
      exact
        { pl := hpl4
          bs := Chg.bk hchg4 HB3.out.drew (Ne.symm nga) nea
          bw := Chg.bk hchg4 HW3.out.drew (Ne.symm ngb) neb
          ls := by { rw [List.length_set]; exact HP1.out.ls }
          lw := by { rw [List.length_set]; exact HP1.out.lw }
          ne := nab
          ig := HP1.out.ig
          ia := HP1.out.ia
          ib := HP1.out.ib
          ie := hie
          heap := hhp4
          free := free_give HP1.out.free HP1.out.ls HP1.out.lw (by omega) (by rw [H1.out]; omega) hperm4
          pos := HP1.out.pos
          most := HP1.out.most
          vals := vals_set HP1.out.vals HP1.out.ls (by omega) (.inl rfl) }
  · have HC := hide hc
    have HC0 := hide hc0
    clear hc hc0
    unfold errV
    go_wp2_with fail
    go_ret
    exact ⟨Keeps.of_below hb hBs, .inr ⟨c, HC.out, HC0.out, rfl, H.out.below hb⟩⟩
end Go.Proofs.YthaoiilghphbiaaDoor.PoolW
