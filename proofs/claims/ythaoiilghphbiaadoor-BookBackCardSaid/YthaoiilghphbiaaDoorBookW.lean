/- The walks of book.blank, New, count, below, clear, Set, Drop, look, At, Of, Live. -/
import Derived.Test.YthaoiilghphbiaaDoorBookPlain
import Derived.Test.YthaoiilghphbiaaDoorBase
import Derived.Test.YthaoiilghphbiaaDoorChecked
import Derived.WalkLawsBesides
import Derived.Deep.OwnRows
set_option linter.unusedVariables false
namespace Go.Proofs.YthaoiilghphbiaaDoor.BookW
open Go.RowKit FenP BookP

/-- The cells of a list of ints. -/
def i64v (l : List Int) : List Value := l.map fun x => .int .i64 x
theorem i64v_length (l : List Int) : (i64v l).length = l.length := by simp [i64v]
theorem i64v_at (l : List Int) (i : Nat) (h : i < l.length) : (i64v l).toArray[i]? = some (.int .i64 (l.getD i 0)) := by
  simp [i64v, h, List.getD]
theorem i64v_set (l : List Int) (i : Nat) (x : Int) : (i64v l).toArray.setIfInBounds i (.int .i64 x) = (i64v (l.set i x)).toArray := by simp [i64v, List.map_set]
theorem grown_put {w w' : World} {g : Nat} (h : w.grownBy w' (some g)) (i : Nat) (u : Value) : w.grownBy (w'.setCell ⟨g, i, none⟩ u) (some g) :=
  ⟨h.os, h.tape, h.output, by simpa [World.setCell] using h.size, fun k hk hne => (Below.heap_setCell w' ⟨g, i, none⟩ u k (by rintro rfl; exact hne rfl)).trans (h.block k hk hne)⟩

/-- Where a book lies, and that it is whole: at_ tells where each lba lies. -/
def BookAt (w : World) (B T g n m : Nat) (at_ : List Int) : Prop :=
  ∃ (of live : List Int) (ga go gl : Nat), Inv n m at_ of live ∧ 0 < n ∧ 0 < m ∧
    Bk w g 63 #[.slice (some ⟨ga, 0, none⟩) n n, .slice (some ⟨go, 0, none⟩) m m, .slice (some ⟨gl, 0, none⟩) (m + 1) (m + 1)] ∧
    Bk w ga 3 (i64v at_).toArray ∧ Bk w go 3 (i64v of).toArray ∧ Bk w gl 3 (i64v live).toArray ∧
    (B ≤ g ∧ g < T) ∧ (B ≤ ga ∧ ga < T) ∧ (B ≤ go ∧ go < T) ∧ (B ≤ gl ∧ gl < T) ∧ ga ≠ go ∧ ga ≠ gl ∧ go ≠ gl
theorem bk_ne {w : World} {g h : Nat} {t e : TypeId} {cs ds : Array Value} (h1 : Bk w g t cs) (h2 : Bk w h e ds) (hne : t ≠ e) : g ≠ h := by
  rintro rfl
  unfold Bk at h1 h2
  rw [h1] at h2
  injection h2 with h2
  injection h2 with _ ht
  exact hne ht
theorem BookAt.below {w w' : World} {B T g n m : Nat} {at_ : List Int} (h : BookAt w B T g n m at_) {B' : Nat} (hb : Below B' w w') (hB : w.heap.size ≤ B') : BookAt w' B T g n m at_ := by
  obtain ⟨of, live, ga, go, gl, hi, hn, hm, b1, b2, b3, b4, r⟩ := h
  exact ⟨of, live, ga, go, gl, hi, hn, hm, b1.below hb (by have := b1.lt; omega), b2.below hb (by have := b2.lt; omega), b3.below hb (by have := b3.lt; omega), b4.below hb (by have := b4.lt; omega), r⟩

/-- Nothing is written below B, and nothing from T on. -/
def Kept (B T : Nat) (w w' : World) : Prop := Below B w w' ∧ ∀ k, T ≤ k → k < w.heap.size → w'.heap[k]? = w.heap[k]?
theorem Kept.refl (B T : Nat) (w : World) : Kept B T w w := ⟨Below.refl _ _, fun _ _ _ => rfl⟩
theorem Kept.trans {B T : Nat} {a b c : World} (h : Kept B T a b) (k : Kept B T b c) : Kept B T a c :=
  ⟨h.1.trans k.1, fun q h1 h2 => (k.2 q h1 (Nat.lt_of_lt_of_le h2 h.1.size)).trans (h.2 q h1 h2)⟩
theorem Kept.drew {B T : Nat} {a w : World} (h : Kept B T a w) : Kept B T a w.drew := ⟨h.1.drew, h.2⟩
theorem Kept.setCell {B T : Nat} {w : World} {p : Addr} (h1 : B ≤ p.block) (h2 : p.block < T) (u : Value) : Kept B T w (w.setCell p u) :=
  ⟨(Below.refl _ _).setCell h1 u, fun k hk _ => Below.heap_setCell w p u k (by omega)⟩
theorem Kept.grown {B T : Nat} {a w w' : World} {r : Nat} (h : Kept B T a w) (hg : w.grownBy w' (some r)) (hB : B ≤ w.heap.size) (h1 : B ≤ r) (h2 : r < T) : Kept B T a w' :=
  ⟨h.1.grown hg hB (fun k hk => by injection hk with hk; omega), fun k hk hlt => (hg.block k (Nat.lt_of_lt_of_le hlt h.1.size) (fun e => by injection e with e; omega)).trans (h.2 k hk hlt)⟩
theorem Kept.own {B T base : Nat} {w w' : World} {e : TypeId} {size : Nat} {v : Value} {n : Nat} {xs : List Value} (hk : Kept B T w w') (h : w.ownsRow base e size v n xs) (hT : T ≤ base) : w'.ownsRow base e size v n xs :=
  ⟨h.1, h.2.imp id fun ⟨g, cap, cur, h1, h2, h3, r⟩ => ⟨g, cap, cur, h1, h2, (hk.2 g (Nat.le_trans hT h2) (Array.getElem?_eq_some_iff.1 h3).1).trans h3, r⟩⟩

/-- i & -i is the lowest bit. -/
theorem and_neg_table : ((List.range 4098).all fun j => decide (bits .and .i64 (j : Int) (-(j : Int)) = (lb j : Int))) = true := by decide +kernel
theorem and_neg (j : Nat) (h : j ≤ 4097) : bits .and .i64 (j : Int) (-(j : Int)) = (lb j : Int) := of_decide_eq_true (List.all_eq_true.1 and_neg_table j (List.mem_range.2 (by omega)))

/-- n cells, of which k are filled. -/
def fillA (n k : Nat) : Array Value := (i64v (List.replicate k (-1) ++ List.replicate (n - k) 0)).toArray
theorem fillA_zero (n : Nat) : madeCells #[.int .i64 0] n = fillA n 0 := by
  apply Array.toList_inj.1
  rw [toList_madeCells_one]
  simp [fillA, i64v]
theorem fillA_at (n k : Nat) (h : k < n) : (fillA n k)[k]? = some (.int .i64 0) := by
  unfold fillA
  rw [i64v_at _ _ (by simp; omega)]
  simp [List.getD_eq_getElem?_getD, show 0 < n - k by omega]
theorem fillA_set (n k : Nat) (h : k < n) : (fillA n k).setIfInBounds k (.int .i64 (-1)) = fillA n (k + 1) := by
  unfold fillA
  rw [i64v_set]
  congr 2
  obtain ⟨j, hj⟩ : ∃ j, n - k = j + 1 := ⟨n - k - 1, by omega⟩
  rw [hj, show n - (k + 1) = j by omega, List.replicate_succ, List.replicate_succ', List.set_append]
  simp
theorem fillA_full (n : Nat) : fillA n n = (i64v (List.replicate n (-1))).toArray := by simp [fillA]
theorem fillA_size (n k : Nat) (h : k ≤ n) : (fillA n k).size = n := by simp [fillA, i64v]; omega
theorem int_info : (Tryd.prog.info? 3).map (fun i => (i.zero, i.size, i.bytes)) = some (some (.int .i64 0), 1, 8) := by kernel_rfl

attribute [local irreducible] lb fillA

theorem blank_any (n : Nat) (hn : n ≤ 5000) (w : World) : Calls Tryd.prog 31 #[.int .i64 n] w fun e w' => e = .returned (.slice (some ⟨w.heap.size, 0, none⟩) n n) ∧ w' = w.alloc (.cells (i64v (List.replicate n (-1))).toArray 3) := by
  have hmk := fun w => run_make_row' (P := Tryd.prog) 31 3 (.int .i64 0) 8 Tryd.underlying31 int_info rfl .i64 .i64 n (by omega) (by omega) w
  rw [fillA_zero] at hmk
  go_enter Tryd.func31, Tryd.ntmps31
  go_wp2
  go_loopw [9] (fun i wr => ∃ k : Nat, k ≤ n ∧ i = .int .i64 k ∧ wr = w.alloc (.cells (fillA n k) 3)) (fun i _ => n - (intOf i).toNat)
  case atStart => exact ⟨0, by omega, rfl, rfl⟩
  case round =>
    obtain ⟨k, hk, rfl, rfl⟩ := hrel
    by_cases hlt : k < n
    · have hc := fillA_at n k hlt
      have HS := hide (fillA_set n k hlt)
      go_wp2
      go_roundw
      case rel => exact ⟨k + 1, by omega, by go_num, by rw [HS.out]⟩
      case measure => simp [intOf]; omega
    · obtain rfl : k = n := by omega
      go_wp2
      go_ret
      exact ⟨rfl, by rw [fillA_full]⟩

theorem in_any (x n : Int) (w : World) (r : Bool) (hr : r = decide (0 ≤ x ∧ x < n)) : Calls Tryd.prog 32 #[.int .i64 x, .int .i64 n] w fun e w' => e = .returned (.bool r) ∧ w = w' := by
  subst hr
  by_cases h1 : 0 ≤ x
  · by_cases h2 : x < n
    · go_enter Tryd.func32, Tryd.ntmps32
      go_wp2
      go_ret
      exact ⟨by simp [h1, h2], rfl⟩
    · go_enter Tryd.func32, Tryd.ntmps32
      go_wp2
      go_ret
      exact ⟨by simp [h2], rfl⟩
  · go_enter Tryd.func32, Tryd.ntmps32
    go_wp2
    go_ret
    exact ⟨by simp; omega, rfl⟩

/-- live[i] += by, up the tree. -/
theorem count_any (g m p : Nat) (by_ : Int) (f : Nat → Int) (S0 S1 : Value) (gl : Nat) (live : List Int) (w : World) (hb : Bk w g 63 #[S0, S1, .slice (some ⟨gl, 0, none⟩) (m + 1) (m + 1)]) (hl : Bk w gl 3 (i64v live).toArray)
    (hlen : live.length = m + 1) (hm : m ≤ 4096) (hp : p < m) (ht : Tree f live) (hf : ∀ q, 0 ≤ f q ∧ f q ≤ 1) (hby : -1 ≤ by_ ∧ by_ ≤ 1) :
    Calls Tryd.prog 34 #[.pointer (some ⟨g, 0, none⟩), .int .i64 p, .int .i64 by_] w fun e w' => ∃ live', e = .returned (.tuple #[]) ∧ Tree (bump f (p + 1) by_) live' ∧ live'.length = m + 1 ∧ Bk w' gl 3 (i64v live').toArray ∧ w.grownBy w' (some gl) := by
  have hne : g ≠ gl := bk_ne hb hl (by decide)
  have hl1 := (lb_facts (j := p + 1) (by omega) (by omega)).1
  have HST := hide (half_start ht (p + 1) by_)
  have HF := hide hf
  have HLEN := hide hlen
  clear ht hf hlen
  go_enter Tryd.func34, Tryd.ntmps34
  go_wp2
  go_loopw [6] (fun i wr => ∃ (k : Nat) (lv : List Int), i = .int .i64 k ∧ p + 1 ≤ k ∧ k ≤ 8193 ∧ k - lb k < p + 1 ∧ Hid (Half f (p + 1) by_ k lv) ∧ Hid (lv.length = m + 1) ∧ Bk wr gl 3 (i64v lv).toArray ∧ w.grownBy wr (some gl)) (fun i _ => 8200 - (intOf i).toNat)
  case atStart => exact ⟨p + 1, live, by go_num, by omega, by omega, by omega, HST, HLEN, hl, World.grownBy.refl _ _⟩
  case round =>
    obtain ⟨k, lv, rfl, hk1, hk2, hcov, HH, HLL, hlr, hg⟩ := hrel
    have hbr := hb.grown hg (by simpa using hne)
    have c2 := hbr.at_ (i := 2) (u := .slice (some ⟨gl, 0, none⟩) (m + 1) (m + 1)) rfl
    by_cases hlt : k < m + 1
    · obtain ⟨f1, f2, f3⟩ := lb_facts (j := k) (by omega) (by omega)
      have hval := HH.out k (by omega) (by rw [HLL.out]; omega)
      rw [if_neg (by omega)] at hval
      have hbd := sumTo_bounds f HF.out (k - lb k) (lb k)
      rw [show k - lb k + lb k = k by omega] at hbd
      have hcl := hlr.at_ (i64v_at lv k (by rw [HLL.out]; omega))
      have hfz := hlr.free k
      have han := and_neg k (by omega)
      have HN := hide (half_step HH.out (by rw [HLL.out]; omega) (by rw [HLL.out]; omega) (by omega) (by omega) hcov)
      have hput := hlr.put k (.int .i64 (lv.getD k 0 + by_))
      rw [i64v_set] at hput
      have HPUT := hide hput
      have HL2 : Hid ((lv.set k (lv.getD k 0 + by_)).length = m + 1) := hide (by rw [List.length_set]; exact HLL.out)
      have HN3 := hide (And.intro HN.out.2.1 HN.out.2.2)
      obtain ⟨v, hv⟩ : ∃ v, v = lv.getD k 0 := ⟨_, rfl⟩
      rw [← hv] at hcl HN HPUT HL2 hval
      have hv1 : 0 ≤ v ∧ v ≤ 4096 := by omega
      clear hput hv hval hbd f3
      have hlt' : (k : Int) < (m : Int) + 1 := by omega
      go_wp2
      go_roundw
      case rel => exact ⟨k + lb k, lv.set k (v + by_), by go_num, by omega, by omega, HN3.out.2, hide HN.out.1, HL2, HPUT.out, grown_put hg _ _⟩
      case measure => simp [intOf]; omega
    · have hlt' : ¬ (k : Int) < (m : Int) + 1 := by omega
      go_wp2
      go_end0
      exact ⟨rfl, lv, half_end HH.out (by omega) (by rw [HLL.out]; omega), HLL.out, hlr, hg⟩

/-- The sum of what is below. -/
theorem below_any (g m p : Nat) (f : Nat → Int) (S0 S1 : Value) (gl : Nat) (live : List Int) (w : World) (hb : Bk w g 63 #[S0, S1, .slice (some ⟨gl, 0, none⟩) (m + 1) (m + 1)]) (hl : Bk w gl 3 (i64v live).toArray)
    (hlen : live.length = m + 1) (hm : m ≤ 4096) (hp : p ≤ m) (ht : Tree f live) (hf : ∀ q, 0 ≤ f q ∧ f q ≤ 1) :
    Calls Tryd.prog 40 #[.pointer (some ⟨g, 0, none⟩), .int .i64 p] w fun e w' => e = .returned (.int .i64 (sumTo f p)) ∧ w = w' := by
  have c2 := hb.at_ (i := 2) (u := .slice (some ⟨gl, 0, none⟩) (m + 1) (m + 1)) rfl
  have HT := hide ht
  have HF := hide hf
  have HLEN := hide hlen
  clear ht hf hlen
  go_enter Tryd.func40, Tryd.ntmps40
  go_wp2
  go_loop [5, 6] (fun s i => ∃ (k : Nat) (x : Int), i = .int .i64 k ∧ s = .int .i64 x ∧ k ≤ p ∧ 0 ≤ x ∧ x ≤ 4096 ∧ Hid (x = sumTo f p - sumTo f k)) (fun _ i => (intOf i).toNat)
  case atStart => exact ⟨p, 0, rfl, rfl, by omega, by omega, by omega, hide (by omega)⟩
  case round =>
    obtain ⟨k, x, rfl, rfl, hk, hx0, hx1, HX⟩ := hrel
    by_cases hlt : 0 < k
    · obtain ⟨f1, f2, f3⟩ := lb_facts (j := k) (by omega) (by omega)
      have hval := HT.out k (by omega) (by rw [HLEN.out]; omega)
      have hbd := sumTo_bounds f HF.out (k - lb k) (lb k)
      rw [show k - lb k + lb k = k by omega] at hbd
      have hcl := hl.at_ (i64v_at live k (by rw [HLEN.out]; omega))
      have han := and_neg k (by omega)
      obtain ⟨v, hv⟩ : ∃ v, v = live.getD k 0 := ⟨_, rfl⟩
      rw [← hv] at hcl hval
      have hv1 : 0 ≤ v ∧ v ≤ 4096 := by omega
      have hbp := sumTo_bounds f HF.out (k - lb k) (p - (k - lb k))
      rw [show k - lb k + (p - (k - lb k)) = p by omega] at hbp
      have HX2 : Hid (x + v = sumTo f p - sumTo f (k - lb k)) := hide (by have := HX.out; omega)
      have hx2 : x + v ≤ 4096 := by have := HX2.out; omega
      clear hv hval hbd hbp f3
      go_wp2
      go_round
      case rel => exact ⟨k - lb k, x + v, by go_num, rfl, by omega, by omega, hx2, HX2⟩
      case measure => simp [intOf]; omega
    · obtain rfl : k = 0 := by omega
      have HX2 : Hid (x = sumTo f p) := hide (by have := HX.out; simp [sumTo] at this; omega)
      go_wp2
      go_ret
      exact ⟨by rw [HX2.out]; rfl, rfl⟩
end Go.Proofs.YthaoiilghphbiaaDoor.BookW
