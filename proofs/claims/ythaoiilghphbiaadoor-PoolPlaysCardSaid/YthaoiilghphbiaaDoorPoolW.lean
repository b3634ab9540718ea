/- The walks of pool's Count, Latched, fault, Worn. -/
import Derived.Test.YthaoiilghphbiaaDoorHeapTop
import Derived.Test.YthaoiilghphbiaaDoorI64
set_option linter.unusedVariables false
namespace Go.Proofs.YthaoiilghphbiaaDoor.PoolW
open Go.RowKit HeapP HeapW I64

/-- The free ones are the pairs of the list, each once. -/
def Free (n : Nat) (st wr : List Int) (hp : List (Int × Int)) : Prop := hp.Nodup ∧ ∀ e, e ∈ hp ↔ ∃ b : Nat, b < n ∧ st.getD b 0 = 0 ∧ e = (wr.getD b 0, (b : Int))
theorem Free.le {n : Nat} {st wr : List Int} {hp : List (Int × Int)} (h : Free n st wr hp) : hp.length ≤ n := by
  have hnd : (hp.map Prod.snd).Nodup := by
    obtain ⟨h1, h2⟩ := h
    have hinj : ∀ x ∈ hp, ∀ y ∈ hp, x.2 = y.2 → x = y := by
      intro x hx y hy e
      obtain ⟨a, _, _, rfl⟩ := (h2 x).1 hx
      obtain ⟨b, _, _, rfl⟩ := (h2 y).1 hy
      simp only at e
      have : a = b := by omega
      subst this; rfl
    clear h2
    induction hp with
    | nil => simp
    | cons x t ih =>
      rw [List.map_cons, List.nodup_cons]
      rw [List.nodup_cons] at h1
      refine ⟨?_, ih h1.2 fun a ha b hb => hinj a (List.mem_cons_of_mem _ ha) b (List.mem_cons_of_mem _ hb)⟩
      intro hm
      obtain ⟨y, hy, e⟩ := List.mem_map.1 hm
      exact h1.1 (hinj y (List.mem_cons_of_mem _ hy) x (by simp) e ▸ hy)
  have := nodup_le n (hp.map Prod.snd) hnd (fun x hx => by
    obtain ⟨e, he, rfl⟩ := List.mem_map.1 hx
    obtain ⟨b, hb, _, rfl⟩ := (h.2 e).1 he
    simp only
    omega)
  simpa using this

/-- Where a pool may lie: not below B, and where P does not hold. -/
def In (B : Nat) (P : Nat → Prop) (x : Nat) : Prop := B ≤ x ∧ ¬ P x
/-- The pool's blocks. -/
structure Parts (w : World) (B : Nat) (P : Nat → Prop) (g n : Nat) (sp : Int) (st wr : List Int) (ga gb ge cap : Nat) (hp : List (Int × Int)) : Prop where
  pl : PL w g ge cap (.int .i64 sp) (.slice (some ⟨ga, 0, none⟩) n n) (.slice (some ⟨gb, 0, none⟩) n n) hp
  bs : Bk w ga 3 (i64v st).toArray
  bw : Bk w gb 3 (i64v wr).toArray
  ls : st.length = n
  lw : wr.length = n
  ne : ga ≠ gb
  ig : In B P g
  ia : In B P ga
  ib : In B P gb
  ie : In B P ge
  heap : Hp hp hp.length 0
  free : Free n st wr hp
  pos : 0 < n
  most : n ≤ 64
  vals : ∀ b, b < n → st.getD b 0 = 0 ∨ st.getD b 0 = 1 ∨ st.getD b 0 = 2
def PoolAt (w : World) (B : Nat) (P : Nat → Prop) (g n : Nat) (sp : Int) (st wr : List Int) : Prop := ∃ ga gb ge cap hp, Parts w B P g n sp st wr ga gb ge cap hp
/-- What a call on a pool leaves as it was. -/
def Keeps (B : Nat) (P : Nat → Prop) (w w' : World) : Prop := Below B w w' ∧ ∀ k, P k → k < w.heap.size → w'.heap[k]? = w.heap[k]?
theorem Keeps.refl (B : Nat) (P : Nat → Prop) (w : World) : Keeps B P w w := ⟨Below.refl _ _, fun _ _ _ => rfl⟩
theorem Keeps.trans {B : Nat} {P : Nat → Prop} {a b c : World} (h : Keeps B P a b) (k : Keeps B P b c) : Keeps B P a c :=
  ⟨h.1.trans k.1, fun q h1 h3 => (k.2 q h1 (Nat.lt_of_lt_of_le h3 h.1.size)).trans (h.2 q h1 h3)⟩
theorem Keeps.drew {B : Nat} {P : Nat → Prop} {a w : World} (h : Keeps B P a w) : Keeps B P a w.drew := ⟨h.1.drew, h.2⟩
theorem Keeps.of_below {B : Nat} {P : Nat → Prop} {w w' : World} (h : Below w.heap.size w w') (hB : B ≤ w.heap.size) : Keeps B P w w' := ⟨h.mono hB, fun k _ h3 => h.block k h3⟩
theorem Keeps.set {B : Nat} {P : Nat → Prop} (w : World) {p : Addr} (h : In B P p.block) (u : Value) : Keeps B P w (w.setCell p u) :=
  ⟨(Below.refl _ _).setCell h.1 u, fun k h1 _ => Below.heap_setCell w p u k (fun e => h.2 (e ▸ h1))⟩
theorem Keeps.chg {B : Nat} {P : Nat → Prop} {a b : Nat} {w w' : World} (h : Chg w w' a b) (ha : In B P a) (hb : In B P b) (hB : B ≤ w.heap.size) : Keeps B P w w' :=
  ⟨h.below ha.1 hb.1 hB, fun k h1 h3 => h.2.2.2.2 k h3 (fun e => ha.2 (e ▸ h1)) (fun e => hb.2 (e ▸ h1))⟩
theorem Keeps.bk {B o : Nat} {P : Nat → Prop} {w w' : World} {t : TypeId} {cs : Array Value} (hk : Keeps B P w w') (h : Bk w o t cs) (ho : P o) : Bk w' o t cs := (hk.2 o ho h.lt).trans h

section
variable {w w' : World} {B : Nat} {P : Nat → Prop} {g n : Nat} {sp : Int} {st wr : List Int} {ga gb ge cap : Nat} {hp : List (Int × Int)}
theorem Parts.below (h : Parts w B P g n sp st wr ga gb ge cap hp) (hb : Below w.heap.size w w') : Parts w' B P g n sp st wr ga gb ge cap hp :=
  { h with pl := h.pl.below hb, bs := h.bs.below hb h.bs.lt, bw := h.bw.below hb h.bw.lt }
theorem PoolAt.below (h : PoolAt w B P g n sp st wr) (hb : Below w.heap.size w w') : PoolAt w' B P g n sp st wr := by
  obtain ⟨ga, gb, ge, cap, hp, h⟩ := h
  exact ⟨ga, gb, ge, cap, hp, h.below hb⟩
theorem Parts.hB (h : Parts w B P g n sp st wr ga gb ge cap hp) : B ≤ w.heap.size := Nat.le_of_lt (Nat.lt_of_le_of_lt h.ig.1 h.pl.1.lt)
theorem PoolAt.other (h : PoolAt w B P g n sp st wr) (hk : ∀ x, B ≤ x → ¬ P x → x < w.heap.size → w'.heap[x]? = w.heap[x]?) : PoolAt w' B P g n sp st wr := by
  obtain ⟨ga, gb, ge, cap, hp, h⟩ := h
  have hh : ∀ x, In B P x → x < w.heap.size → w'.heap[x]? = w.heap[x]? := fun x hx hlt => hk x hx.1 hx.2 hlt
  refine ⟨ga, gb, ge, cap, hp, { h with pl := ⟨(hh g h.ig h.pl.1.lt).trans h.pl.1, h.pl.2.1.block (hh ge h.ie h.pl.2.1.lt_), h.pl.2.2⟩, bs := (hh ga h.ia h.bs.lt).trans h.bs, bw := (hh gb h.ib h.bw.lt).trans h.bw }⟩
theorem PoolAt.avoid (h : PoolAt w B P g n sp st wr) {P' : Nat → Prop} (hP : ∀ x, P' x → P x ∨ w.heap.size ≤ x) : PoolAt w B P' g n sp st wr := by
  obtain ⟨ga, gb, ge, cap, hp, h⟩ := h
  have hi : ∀ x, In B P x → x < w.heap.size → In B P' x := fun x hx hlt => ⟨hx.1, fun h1 => by
    rcases hP x h1 with h2 | h2
    · exact hx.2 h2
    · omega⟩
  exact ⟨ga, gb, ge, cap, hp, { h with ig := hi g h.ig h.pl.1.lt, ia := hi ga h.ia h.bs.lt, ib := hi gb h.ib h.bw.lt, ie := hi ge h.ie h.pl.2.1.lt_ }⟩
theorem PoolAt.lens (h : PoolAt w B P g n sp st wr) : st.length = n ∧ wr.length = n ∧ 0 < n ∧ n ≤ 64 := by
  obtain ⟨ga, gb, ge, cap, hp, h⟩ := h
  exact ⟨h.ls, h.lw, h.pos, h.most⟩
theorem PoolAt.vals (h : PoolAt w B P g n sp st wr) : ∀ b, b < n → st.getD b 0 = 0 ∨ st.getD b 0 = 1 ∨ st.getD b 0 = 2 := by
  obtain ⟨ga, gb, ge, cap, hp, h⟩ := h
  exact h.vals
end

theorem count_take (l : List Int) (k : Nat) (hk : k < l.length) (x : Int) : (l.take (k + 1)).count x = (l.take k).count x + (if l.getD k 0 = x then 1 else 0) := by
  rw [List.take_succ_eq_append_getElem hk, List.count_append]
  have : l[k] = l.getD k 0 := by simp [List.getD, hk]
  rw [this, List.count_cons, List.count_nil]
  simp

set_option maxHeartbeats 1000000 in
theorem count_any (B : Nat) (P : Nat → Prop) (g n : Nat) (sp : Int) (st wr : List Int) (w : World) (h : PoolAt w B P g n sp st wr) :
    Calls Tryd.prog 20 #[.pointer (some ⟨g, 0, none⟩)] w fun e w' => e = .returned (.tuple #[.int .i64 (st.count 0 : Nat), .int .i64 (st.count 1 : Nat), .int .i64 (st.count 2 : Nat)]) ∧ Below w.heap.size w w' := by
  obtain ⟨ga, gb, ge, cap, hp, h⟩ := h
  have c1 : w.cell? ⟨g, 1, none⟩ = some (.slice (some ⟨ga, 0, none⟩) n n) := h.pl.1.at_ (i := 1) rfl
  have hn := h.most
  have HP := hide h
  have hgl := h.pl.1.lt
  have hal := h.bs.lt
  clear h
  have hk0 : Bk (w.alloc (.cells #[.int .i64 0, .int .i64 0, .int .i64 0] 80)) w.heap.size 80 #[.int .i64 0, .int .i64 0, .int .i64 0] := Bk.new _ _ _
  have hb0 : Below w.heap.size w (w.alloc (.cells #[.int .i64 0, .int .i64 0, .int .i64 0] 80)) := (Below.refl _ _).alloc (Nat.le_refl _) _
  go_enter Tryd.func20, Tryd.ntmps20
  go_wp2_with fail
  obtain ⟨B0, hB0⟩ : ∃ B0, B0 = w.heap.size := ⟨_, rfl⟩
  have HB := hide hB0
  rw [← hB0] at hgl hal hk0 hb0 ⊢
  clear hB0
  go_loopw [13] (fun i wr' => ∃ (k a b c : Nat), i = .int .i64 k ∧ k ≤ n ∧ Bk wr' B0 80 #[.int .i64 a, .int .i64 b, .int .i64 c] ∧ Below B0 w wr' ∧ Hid (a = (st.take k).count 0 ∧ b = (st.take k).count 1 ∧ c = (st.take k).count 2) ∧ a ≤ k ∧ b ≤ k ∧ c ≤ k) (fun i _ => n - (intOf i).toNat)
  case atStart => exact ⟨0, 0, 0, 0, rfl, by omega, hk0, hb0, hide ⟨by simp, by simp, by simp⟩, by omega, by omega, by omega⟩
  case round =>
    clear hk0 hb0
    obtain ⟨k, a, b, c, rfl, hk, hbk, hb, HC, ha1, hb1, hc1⟩ := hrel
    by_cases hlt : k < n
    · have hv := HP.out.vals k hlt
      have hcell := (HP.out.bs.below hb hal).at_ (i64v_at st k (by rw [HP.out.ls]; exact hlt))
      have t0 := count_take st k (by rw [HP.out.ls]; exact hlt) 0
      have t1 := count_take st k (by rw [HP.out.ls]; exact hlt) 1
      have t2 := count_take st k (by rw [HP.out.ls]; exact hlt) 2
      rw [← HC.out.1] at t0
      rw [← HC.out.2.1] at t1
      rw [← HC.out.2.2] at t2
      have f0 := hbk.free 0
      have f1 := hbk.free 1
      have f2 := hbk.free 2
      have q0 := hbk.at_ (i := 0) (u := .int .i64 a) rfl
      have q1 := hbk.at_ (i := 1) (u := .int .i64 b) rfl
      have q2 := hbk.at_ (i := 2) (u := .int .i64 c) rfl
      rcases hv with hv | hv | hv
      all_goals rw [hv] at hcell t0 t1 t2
      · have T := hide (And.intro t0 (And.intro t1 t2))
        clear t0 t1 t2 hv
        go_wp2_with fail
        go_roundw
        case rel => exact ⟨k + 1, a + 1, b, c, by go_num, by omega, hbk.put 0 _, hb.setCell (Nat.le_refl _) _, hide ⟨T.out.1.symm, T.out.2.1.symm, T.out.2.2.symm⟩, by omega, by omega, by omega⟩
        case measure => simp [intOf]; omega
      · have T := hide (And.intro t0 (And.intro t1 t2))
        clear t0 t1 t2 hv
        go_wp2_with fail
        go_roundw
        case rel => exact ⟨k + 1, a, b + 1, c, by go_num, by omega, hbk.put 1 _, hb.setCell (Nat.le_refl _) _, hide ⟨T.out.1.symm, T.out.2.1.symm, T.out.2.2.symm⟩, by omega, by omega, by omega⟩
        case measure => simp [intOf]; omega
      · have T := hide (And.intro t0 (And.intro t1 t2))
        clear t0 t1 t2 hv
        go_wp2_with fail
        go_roundw
        case rel => exact ⟨k + 1, a, b, c + 1, by go_num, by omega, hbk.put 2 _, hb.setCell (Nat.le_refl _) _, hide ⟨T.out.1.symm, T.out.2.1.symm, T.out.2.2.symm⟩, by omega, by omega, by omega⟩
        case measure => simp [intOf]; omega
    · obtain rfl : k = n := by omega
      have hfull : st.take k = st := List.take_of_length_le (by rw [HP.out.ls]; exact Nat.le_refl _)
      rw [hfull] at HC
      have q0 := hbk.at_ (i := 0) (u := .int .i64 a) rfl
      have q1 := hbk.at_ (i := 1) (u := .int .i64 b) rfl
      have q2 := hbk.at_ (i := 2) (u := .int .i64 c) rfl
      clear hfull
      go_wp2_with fail
      go_region
      go_wp2_with fail
      go_ret3
      exact ⟨by rw [← HC.out.1, ← HC.out.2.1, ← HC.out.2.2]; rfl, by rw [← HB.out]; exact hb.drew⟩

theorem latched_any (B : Nat) (P : Nat → Prop) (g n : Nat) (sp : Int) (st wr : List Int) (w : World) (h : PoolAt w B P g n sp st wr) :
    Calls Tryd.prog 21 #[.pointer (some ⟨g, 0, none⟩)] w fun e w' => e = .returned (.bool (decide (sp < (st.count 2 : Nat)))) ∧ Below w.heap.size w w' := by
  have H := hide h
  obtain ⟨ga, gb, ge, cap, hp, h⟩ := h
  have HB1 := hide h.pl.1
  clear h
  go_enter Tryd.func21, Tryd.ntmps21
  go_wp2_with fail
  refine (count_any B P g n sp st wr _ H.out).mono ?_
  rintro e w1 ⟨rfl, hb⟩
  have c0 := (HB1.out.below hb HB1.out.lt).at_ (i := 0) (u := .int .i64 sp) rfl
  go_wp2_with fail
  go_ret
  exact ⟨rfl, hb⟩

/-- Why a call on a block is refused: 0: it is not; 9: too many are bad; 1: there is no such block; 10: it is not used. -/
def fcode (n : Nat) (sp : Int) (st : List Int) (b : Int) : Int := if sp < (st.count 2 : Nat) then 9 else if ¬ (0 ≤ b ∧ b < n) then 1 else if st.getD b.toNat 0 = 1 then 0 else 10
def errV (k : Int) : Value := .iface 35 (.int .i64 k)

theorem fault_any (B : Nat) (P : Nat → Prop) (g n : Nat) (sp : Int) (st wr : List Int) (b : Int) (w : World) (h : PoolAt w B P g n sp st wr) :
    Calls Tryd.prog 43 #[.pointer (some ⟨g, 0, none⟩), .int .i64 b] w fun e w' => Below w.heap.size w w' ∧ ((fcode n sp st b = 0 ∧ e = .returned .nilIface) ∨ (∃ c : Int, fcode n sp st b = c ∧ c ≠ 0 ∧ e = .returned (errV c))) := by
  have H := hide h
  obtain ⟨ga, gb, ge, cap, hp, h⟩ := h
  have HB1 := hide h.pl.1
  have HB2 := hide h.bs
  have HL := hide h.ls
  have hn := h.most
  clear h
  by_cases h9 : sp < (st.count 2 : Nat)
  · have HC : Hid (fcode n sp st b = 9) := hide (by unfold fcode; rw [if_pos h9])
    have hd : decide (sp < (st.count 2 : Nat)) = true := decide_eq_true h9
    clear h9
    go_enter Tryd.func43, Tryd.ntmps43
    go_wp2_with fail
    refine (latched_any B P g n sp st wr _ H.out).mono ?_
    rintro e w1 ⟨rfl, hb⟩
    rw [hd]
    go_wp2_with fail
    go_ret
    exact ⟨hb, .inr ⟨9, HC.out, by omega, rfl⟩⟩
  have hd : decide (sp < (st.count 2 : Nat)) = false := decide_eq_false h9
  by_cases hin : 0 ≤ b ∧ b < n
  rotate_left
  · have HC : Hid (fcode n sp st b = 1) := hide (by unfold fcode; rw [if_neg h9, if_pos hin])
    clear h9
    go_enter Tryd.func43, Tryd.ntmps43
    go_wp2_with fail
    refine (latched_any B P g n sp st wr _ H.out).mono ?_
    rintro e w1 ⟨rfl, hb⟩
    rw [hd]
    have c1 := (HB1.out.below hb HB1.out.lt).at_ (i := 1) (u := .slice (some ⟨ga, 0, none⟩) n n) rfl
    by_cases g1 : b < 0
    · clear hin
      go_wp2_with fail
      go_ret
      exact ⟨hb, .inr ⟨1, HC.out, by omega, rfl⟩⟩
    · have g2 : (n : Int) ≤ b := by omega
      clear hin
      go_wp2_with fail
      go_ret
      exact ⟨hb, .inr ⟨1, HC.out, by omega, rfl⟩⟩
  obtain ⟨i1, i2⟩ := hin
  obtain ⟨k, rfl⟩ := Int.eq_ofNat_of_zero_le i1
  have hcell := i64v_at st k (by rw [HL.out]; omega)
  have HF : Hid (fcode n sp st (k : Int) = if st.getD k 0 = 1 then 0 else 10) := hide (by unfold fcode; rw [if_neg h9, if_neg (by omega), Int.toNat_natCast])
  obtain ⟨v, hv⟩ : ∃ v, v = st.getD k 0 := ⟨_, rfl⟩
  rw [← hv] at hcell HF
  have HCELL := hide hcell
  clear h9 hv hcell
  by_cases hv1 : v = 1
  · subst hv1
    go_enter Tryd.func43, Tryd.ntmps43
    go_wp2_with fail
    refine (latched_any B P g n sp st wr _ H.out).mono ?_
    rintro e w1 ⟨rfl, hb⟩
    rw [hd]
    have c1 := (HB1.out.below hb HB1.out.lt).at_ (i := 1) (u := .slice (some ⟨ga, 0, none⟩) n n) rfl
    have c2 := (HB2.out.below hb HB2.out.lt).at_ HCELL.out
    go_wp2_with fail
    go_ret
    exact ⟨hb, .inl ⟨HF.out, rfl⟩⟩
  · have hd2 : (v != 1) = true := by simpa using hv1
    have HF2 : Hid (fcode n sp st (k : Int) = 10) := hide (by rw [HF.out, if_neg hv1])
    clear hv1
    go_enter Tryd.func43, Tryd.ntmps43
    go_wp2_with fail
    refine (latched_any B P g n sp st wr _ H.out).mono ?_
    rintro e w1 ⟨rfl, hb⟩
    rw [hd]
    have c1 := (HB1.out.below hb HB1.out.lt).at_ (i := 1) (u := .slice (some ⟨ga, 0, none⟩) n n) rfl
    have c2 := (HB2.out.below hb HB2.out.lt).at_ HCELL.out
    go_wp2_with fail
    go_ret
    exact ⟨hb, .inr ⟨10, HF2.out, by omega, rfl⟩⟩

theorem worn_ok (B : Nat) (P : Nat → Prop) (g n k : Nat) (sp : Int) (st wr : List Int) (w : World) (h : PoolAt w B P g n sp st wr) (hk : k < n) (v : Int) (hv : wr.getD k 0 = v) :
    Calls Tryd.prog 28 #[.pointer (some ⟨g, 0, none⟩), .int .i64 k] w fun e w' => e = .returned (.tuple #[.int .i64 v, .nilIface]) ∧ w = w' := by
  obtain ⟨ga, gb, ge, cap, hp, h⟩ := h
  have c2 := h.pl.1.at_ (i := 2) (u := .slice (some ⟨gb, 0, none⟩) n n) rfl
  have hn := h.most
  have hc := h.bw.at_ (i64v_at wr k (by rw [h.lw]; exact hk))
  rw [hv] at hc
  clear h hv
  go_enter Tryd.func28, Tryd.ntmps28
  go_wp2_with fail
  go_ret2
  exact ⟨rfl, rfl⟩
theorem worn_range (B : Nat) (P : Nat → Prop) (g n : Nat) (b sp : Int) (st wr : List Int) (w : World) (h : PoolAt w B P g n sp st wr) (hb : ¬ (0 ≤ b ∧ b < n)) :
    Calls Tryd.prog 28 #[.pointer (some ⟨g, 0, none⟩), .int .i64 b] w fun e w' => e = .returned (.tuple #[.int .i64 0, errV 1]) ∧ w = w' := by
  obtain ⟨ga, gb, ge, cap, hp, h⟩ := h
  have c2 := h.pl.1.at_ (i := 2) (u := .slice (some ⟨gb, 0, none⟩) n n) rfl
  have hn := h.most
  clear h
  by_cases g1 : b < 0
  · clear hb
    go_enter Tryd.func28, Tryd.ntmps28
    go_wp2_with fail
    go_ret2
    exact ⟨rfl, rfl⟩
  · have g2 : (n : Int) ≤ b := by omega
    clear hb
    go_enter Tryd.func28, Tryd.ntmps28
    go_wp2_with fail
    go_ret2
    exact ⟨rfl, rfl⟩
end Go.Proofs.YthaoiilghphbiaaDoor.PoolW
