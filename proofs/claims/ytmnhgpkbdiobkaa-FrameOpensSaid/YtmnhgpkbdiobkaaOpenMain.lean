/- The walk of frame.Open: a page that may be a frame. -/
import Derived.Test.YtmnhgpkbdiobkaaOpens
import Derived.Deep.RegionHeld3
import Derived.Deep.DeepCutAuto
set_option linter.unusedVariables false
namespace Go.Proofs.Ytmnhgpkbdiobkaa.OpenW
open Go.RowKit PutW CrcW Fram Crc PackW FrameW GetW ApartW

def kindOf (l : List UInt8) : Int := ((l.getD 1 0).toNat : Int)
def lbaOf (l : List UInt8) : Nat := leN ((l.drop 2).take 4)
def seqOf (l : List UInt8) : Nat := leN ((l.drop 6).take 8)
def seqI (l : List UInt8) : Int := IntKind.i64.wrap (seqOf l : Int)
def longOf (l : List UInt8) : Nat := leN ((l.drop 14).take 2)
def dataOf (l : List UInt8) : List UInt8 := (l.drop 20).take (longOf l)
def Good (l : List UInt8) (n : Nat) : Prop := longOf l + 21 ≤ n ∧ Fits n (longOf l) (kindOf l) (lbaOf l) (seqI l) ∧ pack n (kindOf l).toNat (lbaOf l) (seqI l).toNat (dataOf l) = l

theorem rd_sub {w : World} {b o : Nat} {l : List UInt8} (h : Rd w (some ⟨b, o, none⟩) (u8v l)) (i k : Nat) : Rd w (some ⟨b, o + i, none⟩) (u8v ((l.drop i).take k)) := by
  rcases h with h | ⟨b', o', he, hc⟩
  · have hl : l = [] := by
      have := congrArg List.length h
      rw [u8v_length] at this
      exact List.eq_nil_of_length_eq_zero (by simpa using this)
    subst hl
    left
    simp [u8v]
  · injection he with he
    injection he with hb ho
    subst hb ho
    refine .inr ⟨b, o + i, rfl, fun j u hu => ?_⟩
    rw [Nat.add_assoc]
    refine hc (i + j) u ?_
    unfold u8v at hu ⊢
    rw [List.getElem?_map, List.getElem?_take] at hu
    rw [List.getElem?_map]
    split at hu
    · rwa [List.getElem?_drop] at hu
    · cases hu

theorem lbaOf_lt (l : List UInt8) : lbaOf l < 4294967296 := by
  have h := leN_lt ((l.drop 2).take 4)
  have h2 : ((l.drop 2).take 4).length ≤ 4 := by simp; omega
  have h3 : (256 : Nat) ^ ((l.drop 2).take 4).length ≤ 256 ^ 4 := Nat.pow_le_pow_right (by omega) h2
  unfold lbaOf
  omega
theorem longOf_lt (l : List UInt8) : longOf l < 65536 := by
  have h := leN_lt ((l.drop 14).take 2)
  have h2 : ((l.drop 14).take 2).length ≤ 2 := by simp; omega
  have h3 : (256 : Nat) ^ ((l.drop 14).take 2).length ≤ 256 ^ 2 := Nat.pow_le_pow_right (by omega) h2
  unfold longOf
  omega

theorem get_lba (l : List UInt8) (b o c : Nat) (w : World) (h : 24 ≤ l.length) (hr : Rd w (some ⟨b, o, none⟩) (u8v l)) :
    Calls Try.prog 34 #[.slice (some ⟨b, o + 2, none⟩) 4 c] w fun e w' => e = .returned (.int .u64 (lbaOf l)) ∧ w = w' :=
  get_any _ ((l.drop 2).take 4) 4 c w (by simp; omega) (by simp; omega) (by simp; omega) (rd_sub hr 2 4)
theorem get_seq (l : List UInt8) (b o c : Nat) (w : World) (h : 24 ≤ l.length) (hr : Rd w (some ⟨b, o, none⟩) (u8v l)) :
    Calls Try.prog 34 #[.slice (some ⟨b, o + 6, none⟩) 8 c] w fun e w' => e = .returned (.int .u64 (seqOf l)) ∧ w = w' :=
  get_any _ ((l.drop 6).take 8) 8 c w (by simp; omega) (by simp; omega) (by simp; omega) (rd_sub hr 6 8)
theorem get_long (l : List UInt8) (b o c : Nat) (w : World) (h : 24 ≤ l.length) (hr : Rd w (some ⟨b, o, none⟩) (u8v l)) :
    Calls Try.prog 34 #[.slice (some ⟨b, o + 14, none⟩) 2 c] w fun e w' => e = .returned (.int .u64 (longOf l)) ∧ w = w' :=
  get_any _ ((l.drop 14).take 2) 2 c w (by simp; omega) (by simp; omega) (by simp; omega) (rd_sub hr 14 2)

theorem rd_data {l : List UInt8} {b o : Nat} {w : World} (hr : Rd w (some ⟨b, o, none⟩) (u8v l)) : Rd w (some ⟨b, o + 20, none⟩) (u8v (dataOf l)) := rd_sub hr 20 (longOf l)
theorem data_length {l : List UInt8} (h : longOf l + 20 ≤ l.length) : longOf l = (dataOf l).length := by
  unfold dataOf
  simp
  omega

attribute [local irreducible] pack kindOf lbaOf seqOf seqI longOf dataOf

set_option maxRecDepth 100000 in
set_option maxHeartbeats 2000000 in
theorem open_main (A : Option Addr) (l : List UInt8) (n c : Nat) (w : World) (hn : n = l.length) (h24 : 24 ≤ n) (hmax : n ≤ 4096) (hnc : n ≤ c) (hcm : c ≤ 9223372036854775807) (hr : Rd w A (u8v l)) (hl0 : l.getD 0 0 = 165) (hl1 : l.getD (n - 1) 0 = 90) :
    Calls Try.prog 22 #[.slice A n c] w fun e w' => Below w.heap.size w w' ∧ ((¬ Good l n ∧ e = .returned (.tuple #[noFrame, .int .i64 3])) ∨
      (Good l n ∧ ∃ B c', e = .returned (.tuple #[frV (kindOf l) (lbaOf l) (seqI l) B (longOf l) c', .int .i64 2]) ∧ longOf l ≤ c' ∧ Rd w' B (u8v (dataOf l)))) := by
  have hg0 : ((n : Int) > 0) := by omega
  have hd0 : decide ((n : Int) > 0) = true := by simp; omega
  have hf : l.count 255 ≠ n := by
    intro h
    rw [hn] at h
    have h2 := List.count_eq_length.1 h (l.getD 0 0) (by rw [show l.getD 0 0 = l[0]'(by omega) from by simp [List.getD, show 0 < l.length by omega]]; exact List.getElem_mem _)
    rw [hl0] at h2
    exact absurd h2 (by decide)
  have hcf : ((l.count 255 : Int) == (n : Int)) = false := by simp; omega
  generalize hq : ((l.count 255 : Nat) : Int) = q at hcf
  obtain ⟨b, o, rfl, hbw, hcell⟩ := hr.form (by rw [u8v_length]; omega)
  have hrr := hr.below (w0_below w)
  have hc0 : (w0 w).cell? ⟨b, o, none⟩ = some (.int .u8 165) := by
    have := hrr.cells ⟨b, o, none⟩ rfl 0 _ (u8v_get l 0 (by omega))
    rw [Addr.add_lit] at this
    rw [show l[0]'(by omega) = l.getD 0 0 from by simp [List.getD, show 0 < l.length by omega], hl0] at this
    exact this
  have hcn : (w0 w).cell? ⟨b, o + (n - 1), none⟩ = some (.int .u8 90) := by
    have := hrr.cells ⟨b, o, none⟩ rfl (n - 1) _ (u8v_get l (n - 1) (by omega))
    rw [Addr.add_lit] at this
    rw [show l[n - 1]'(by omega) = l.getD (n - 1) 0 from by simp [List.getD, show n - 1 < l.length by omega], hl1] at this
    exact this
  have hc1 : (w0 w).cell? ⟨b, o + 1, none⟩ = some (.int .u8 (kindOf l)) := by
    have := hrr.cells ⟨b, o, none⟩ rfl 1 _ (u8v_get l 1 (by omega))
    rw [Addr.add_lit] at this
    rw [show l[1]'(by omega) = l.getD 1 0 from by simp [List.getD, show 1 < l.length by omega]] at this
    unfold kindOf
    exact this
  have hk0 : 0 ≤ kindOf l ∧ kindOf l ≤ 255 := by
    unfold kindOf
    have := (l.getD 1 0).toNat_lt
    omega
  have HN := hide hn
  have HQ := hide hq
  have hb0 := w0_below w
  have hR := w0_res w
  have hff := w0_ff w
  have hsz := w0_size w
  clear hn hq hf hl0 hl1 hcell
  unfold noFrame frV
  go_enter Try.func22, Try.ntmps22
  go_wp2_with fail
  change Calls Try.prog 33 _ (w0 w) _
  generalize w0 w = w0 at hb0 hR hff hrr hc0 hcn hc1 hsz ⊢
  obtain ⟨g, hg⟩ : ∃ g, g = w.heap.size := ⟨_, rfl⟩
  rw [← hg] at hR hb0 hff hbw hsz ⊢
  have hlt := hR.lt
  have HG := hide hg
  clear hg hr
  refine (count_any _ l n c _ 1 w0 HN.out (by omega) hrr hff).mono ?_
  rintro e w1 ⟨rfl, rfl⟩
  rw [HQ.out]
  have hcI : (14 : Int) ≤ (c : Int) := by omega
  have hcI2 : (6 : Int) ≤ (c : Int) := by omega
  have hcI3 : (16 : Int) ≤ (c : Int) := by omega
  have hcI4 : (20 : Int) ≤ (c : Int) := by omega
  have y1 : ¬ c = 2 := by omega
  have y2 : ¬ c = 6 := by omega
  have y3 : ¬ c = 14 := by omega
  have y4 : ¬ c = 16 := by omega
  have y5 : ¬ c = 20 := by omega
  have hlb := lbaOf_lt l
  have hlo := longOf_lt l
  have x1 : IntKind.i64.wrap (lbaOf l : Int) = (lbaOf l : Int) := by rw [IntKind.wrap_i64]; omega
  have x2 : IntKind.i64.wrap (longOf l : Int) = (longOf l : Int) := by rw [IntKind.wrap_i64]; omega
  have x3 : IntKind.i64.wrap (seqOf l : Int) = seqI l := by unfold seqI; rfl
  generalize hsq : ((seqOf l : Nat) : Int) = sq at x3
  have HSQ := hide hsq
  clear hsq
  have hlen24 : 24 ≤ l.length := by rw [← HN.out]; exact h24
  have HL24 := hide hlen24
  have HC1A : Hid (∀ ob, (w1.alloc ob).cell? ⟨b, o + 1, none⟩ = some (.int .u8 (kindOf l))) := by
    refine hide fun ob => ?_
    rw [World.cell?_of_block (w := w1) (Below.heap_alloc w1 _ b (Nat.lt_trans hbw hlt))]
    exact hc1
  have hn1 : (1 : Int) < (n : Int) := by omega
  have x0 : IntKind.i64.wrap (kindOf l) = kindOf l := by rw [IntKind.wrap_i64]; omega
  clear hlen24
  go_wp2_with fail
  go_cut [5] (fun v wx => v = .pointer (some ⟨g + 2, 0, none⟩) ∧ wx = (w1.alloc (.cells #[.int .i64 (kindOf l), .int .i64 (lbaOf l), .int .i64 (seqI l), .slice none 0 0] 28)).drew)
  case first =>
    go_region_held3 (fun w' => w'.cell? ⟨b, o + 1, none⟩ = some (.int .u8 (kindOf l)))
      (first | exact hc1 | exact HC1A.out _)
      (first
        | (go_at_call 34
           with_reducible refine (get_lba l b o _ _ HL24.out (by first | exact hrr.drew | exact (hrr.alloc _).drew)).mono ?_
           rintro e w3 ⟨rfl, rfl⟩)
        | (go_at_call 34
           with_reducible refine (get_seq l b o _ _ HL24.out (by first | exact hrr.drew | exact (hrr.alloc _).drew)).mono ?_
           rintro e w3 ⟨rfl, rfl⟩
           rw [HSQ.out]))
    all_goals
      go_wp2_with fail
      go_meet
      exact ⟨rfl, rfl⟩
  case rest =>
    obtain ⟨rfl, rfl⟩ := hcut
    have hF := (Bk.new w1 28 #[.int .i64 (kindOf l), .int .i64 (lbaOf l), .int .i64 (seqI l), .slice none 0 0]).drew
    have hR2 := (hR.alloc (.cells #[.int .i64 (kindOf l), .int .i64 (lbaOf l), .int .i64 (seqI l), .slice none 0 0] 28)).drew
    have hb2 := (hb0.alloc (Nat.le_of_lt hlt) (.cells #[.int .i64 (kindOf l), .int .i64 (lbaOf l), .int .i64 (seqI l), .slice none 0 0] 28)).drew
    have hr2 := (hrr.alloc (.cells #[.int .i64 (kindOf l), .int .i64 (lbaOf l), .int .i64 (seqI l), .slice none 0 0] 28)).drew
    rw [hsz] at hF
    clear hc0 hcn hc1 hff hb0 hR hrr HC1A hsz hlt
    generalize (w1.alloc (.cells #[.int .i64 (kindOf l), .int .i64 (lbaOf l), .int .i64 (seqI l), .slice none 0 0] 28)).drew = w2 at hF hR2 hb2 hr2 ⊢
    obtain ⟨g2, hg2⟩ : ∃ g2, g2 = g + 2 := ⟨_, rfl⟩
    rw [← hg2] at hF ⊢
    have hne : ¬ g = g2 := by omega
    have hne' : ¬ g2 = g := by omega
    have hle : g ≤ g2 := by omega
    clear hg2
    have hlt := hR2.lt
    have hlt2 := hF.lt
    by_cases hL : longOf l + 21 ≤ n
    · have hcl : (20 : Int) + (longOf l : Int) ≤ (c : Int) := by omega
      have hll : ((n : Int) - 20 - 1 < (longOf l : Int)) = False := by simp; omega
      have HDL := hide (data_length (l := l) (by rw [← HN.out]; omega))
      go_wp2_with fail
      refine (get_long l b o _ _ HL24.out hr2).mono ?_
      rintro e w3 ⟨rfl, rfl⟩
      go_wp2_with fail
      have hnb : longOf l ≤ 140737488355328 := by omega
      refine (clone_any (some ⟨b, o + 20, none⟩) (dataOf l) (longOf l) _ _ HDL.out hnb (rd_data hr2)).mono ?_
      rintro e w3 ⟨B, c', rfl, hcc, hrB, hb3, hfar⟩
      have hF3 := hF.below hb3 hlt2
      have hR3 := hR2.below hb3 hlt
      have hr3 := hr2.below hb3
      have hb23 := hb2.trans (hb3.mono (Nat.le_of_lt hlt))
      have hrB4 := rd_far hrB (p := ⟨g2, 3, none⟩) (.slice B (longOf l) c') (fun k o hk hx e => by have := hfar k o hk hx; simp at e; omega)
      have hr4 := rd_far hr3 (p := ⟨g2, 3, none⟩) (.slice B (longOf l) c') (fun k o hk hx e => by injection hk with hk; injection hk with hk; simp at e; omega)
      have HBG : Hid (∀ k o, B = some ⟨k, o, none⟩ → u8v (dataOf l) ≠ [] → k ≠ g) := hide fun k o hk hx e => by have := hfar k o hk hx; omega
      clear hF hR2 hr2 hb2 hlt hlt2 hfar
      have hFq := hF3.at_ (i := 3) (u := .slice none 0 0) rfl
      have hFf := hF3.free 3
      have d0 := hF3.at_ (i := 0) (u := .int .i64 (kindOf l)) rfl
      have d1 := hF3.at_ (i := 1) (u := .int .i64 (lbaOf l)) rfl
      have d2 := hF3.at_ (i := 2) (u := .int .i64 (seqI l)) rfl
      have hF4 := hF3.put 3 (.slice B (longOf l) c')
      have hR4 := hR3.far (p := ⟨g2, 3, none⟩) hne (.slice B (longOf l) c')
      have hb4 := hb23.setCell (p := ⟨g2, 3, none⟩) hle (.slice B (longOf l) c')
      go_wp2_with fail
      generalize w3.setCell ⟨g2, 3, none⟩ (.slice B (longOf l) c') = w4 at hF4 hR4 hb4 hrB4 hr4 ⊢
      have hlt := hR4.lt
      have hlt2 := hF4.lt
      clear hFq hFf d0 d1 d2 hF3 hR3 hr3 hrB hb23 hb3
      by_cases hfit : Fits n (longOf l) (kindOf l) (lbaOf l) (seqI l)
      · have hfit' := hfit
        obtain ⟨o1, o2, o3, o4, o5, o6, o7, o8⟩ := hfit'
        refine (pack_ok n (kindOf l) (lbaOf l) (seqI l) B (dataOf l) (longOf l) c' _ h24 hmax o3 o4 o5 o6 o7 o8 HDL.out hL hrB4).mono ?_
        rintro e w5 ⟨v, rfl, ho, hb5'⟩
        have hF5 := hF4.below hb5' hlt2
        have hR5 := hR4.below hb5' hlt
        have hr5 := hr4.below hb5'
        have hrB5 := hrB4.below hb5'
        have hb5 := hb4.trans (hb5'.mono (Nat.le_of_lt hlt))
        obtain ⟨C, e5, rfl, -, -, hrC, -, -⟩ := own_form ho
        have HPL := hide (pack_length n (kindOf l).toNat (lbaOf l) (seqI l).toNat (dataOf l) (by rw [← HDL.out]; omega)).symm
        clear ho hF4 hR4 hr4 hrB4 hb4 hb5' hlt hlt2
        have HFIT := hide hfit
        clear hfit
        by_cases heq : pack n (kindOf l).toNat (lbaOf l) (seqI l).toNat (dataOf l) = l
        · have HEQ := hide heq
          have HRES := hide (show true = decide (pack n (kindOf l).toNat (lbaOf l) (seqI l).toNat (dataOf l) = l) from (decide_eq_true heq).symm)
          clear heq
          have q0 := hR5.at_ (i := 0) (u := .int .i64 0) rfl
          have q1 := hR5.at_ (i := 1) (u := .int .i64 0) rfl
          have q2 := hR5.at_ (i := 2) (u := .int .i64 0) rfl
          have q3 := hR5.at_ (i := 3) (u := .slice none 0 0) rfl
          have f0 := hR5.free 0
          have f1 := hR5.free 1
          have f2 := hR5.free 2
          have f3 := hR5.free 3
          have d0 := hF5.at_ (i := 0) (u := .int .i64 (kindOf l)) rfl
          have d1 := hF5.at_ (i := 1) (u := .int .i64 (lbaOf l)) rfl
          have d2 := hF5.at_ (i := 2) (u := .int .i64 (seqI l)) rfl
          have d3 := hF5.at_ (i := 3) (u := .slice B (longOf l) c') rfl
          go_wp2_with fail
          refine (equal_any C (some ⟨b, o, none⟩) _ l n n e5 c _ HPL.out HN.out hrC hr5 _ HRES.out).mono ?_
          rintro e w6 ⟨rfl, rfl⟩
          go_wp2_with fail
          refine ret_open _ g _ (kindOf l) (lbaOf l) (seqI l) B (longOf l) c' 2 _ rfl rfl rfl ((((hR5.put 0 (.int .i64 (kindOf l))).put 1 (.int .i64 (lbaOf l))).put 2 (.int .i64 (seqI l))).put 3 (.slice B (longOf l) c')) ⟨?_, .inr ⟨⟨hL, HFIT.out, HEQ.out⟩, B, c', rfl, hcc, ?_⟩⟩
          · rw [← HG.out]
            exact (((hb5.setCell (p := ⟨g, 0, none⟩) (Nat.le_refl _) (.int .i64 (kindOf l))).setCell (p := ⟨g, 1, none⟩) (Nat.le_refl _) (.int .i64 (lbaOf l))).setCell (p := ⟨g, 2, none⟩) (Nat.le_refl _) (.int .i64 (seqI l))).setCell (p := ⟨g, 3, none⟩) (Nat.le_refl _) (.slice B (longOf l) c')
          · exact rd_far (rd_far (rd_far (rd_far hrB5 (p := ⟨g, 0, none⟩) (.int .i64 (kindOf l)) HBG.out) (p := ⟨g, 1, none⟩) (.int .i64 (lbaOf l)) HBG.out) (p := ⟨g, 2, none⟩) (.int .i64 (seqI l)) HBG.out) (p := ⟨g, 3, none⟩) (.slice B (longOf l) c') HBG.out
        · have HRES := hide (show false = decide (pack n (kindOf l).toNat (lbaOf l) (seqI l).toNat (dataOf l) = l) from (decide_eq_false heq).symm)
          have HBAD : Hid (¬ Good l n) := hide fun h => heq h.2.2
          clear heq
          have q0 := hR5.at_ (i := 0) (u := .int .i64 0) rfl
          have q1 := hR5.at_ (i := 1) (u := .int .i64 0) rfl
          have q2 := hR5.at_ (i := 2) (u := .int .i64 0) rfl
          have q3 := hR5.at_ (i := 3) (u := .slice none 0 0) rfl
          have f0 := hR5.free 0
          have f1 := hR5.free 1
          have f2 := hR5.free 2
          have f3 := hR5.free 3
          go_wp2_with fail
          refine (equal_any C (some ⟨b, o, none⟩) _ l n n e5 c _ HPL.out HN.out hrC hr5 _ HRES.out).mono ?_
          rintro e w6 ⟨rfl, rfl⟩
          go_wp2_with fail
          refine ret_open _ g _ 0 0 0 none 0 0 3 _ rfl rfl rfl ((((hR5.put 0 (.int .i64 0)).put 1 (.int .i64 0)).put 2 (.int .i64 0)).put 3 (.slice none 0 0)) ⟨?_, .inl ⟨HBAD.out, rfl⟩⟩
          rw [← HG.out]
          exact (((hb5.setCell (p := ⟨g, 0, none⟩) (Nat.le_refl _) (.int .i64 0)).setCell (p := ⟨g, 1, none⟩) (Nat.le_refl _) (.int .i64 0)).setCell (p := ⟨g, 2, none⟩) (Nat.le_refl _) (.int .i64 0)).setCell (p := ⟨g, 3, none⟩) (Nat.le_refl _) (.slice none 0 0)
      · have HFIT := hide hfit
        have HBAD : Hid (¬ Good l n) := hide fun h => hfit h.2.1
        clear hfit
        refine (pack_bad n (kindOf l) (lbaOf l) (seqI l) B (longOf l) c' _ (by omega) (by omega) (fun h => HFIT.out h.1)).mono ?_
        rintro e w5 ⟨q5, rfl, hb5'⟩
        have hR5 := hR4.below hb5' hlt
        have hb5 := hb4.trans (hb5'.mono (Nat.le_of_lt hlt))
        clear hF4 hR4 hr4 hrB4 hb4 hb5' hlt hlt2
        have q0 := hR5.at_ (i := 0) (u := .int .i64 0) rfl
        have q1 := hR5.at_ (i := 1) (u := .int .i64 0) rfl
        have q2 := hR5.at_ (i := 2) (u := .int .i64 0) rfl
        have q3 := hR5.at_ (i := 3) (u := .slice none 0 0) rfl
        have f0 := hR5.free 0
        have f1 := hR5.free 1
        have f2 := hR5.free 2
        have f3 := hR5.free 3
        go_wp2_with fail
        refine ret_open _ g _ 0 0 0 none 0 0 3 _ rfl rfl rfl ((((hR5.put 0 (.int .i64 0)).put 1 (.int .i64 0)).put 2 (.int .i64 0)).put 3 (.slice none 0 0)) ⟨?_, .inl ⟨HBAD.out, rfl⟩⟩
        rw [← HG.out]
        exact (((hb5.setCell (p := ⟨g, 0, none⟩) (Nat.le_refl _) (.int .i64 0)).setCell (p := ⟨g, 1, none⟩) (Nat.le_refl _) (.int .i64 0)).setCell (p := ⟨g, 2, none⟩) (Nat.le_refl _) (.int .i64 0)).setCell (p := ⟨g, 3, none⟩) (Nat.le_refl _) (.slice none 0 0)
    · have hll : (n : Int) - 20 - 1 < (longOf l : Int) := by omega
      have q0 := hR2.at_ (i := 0) (u := .int .i64 0) rfl
      have q1 := hR2.at_ (i := 1) (u := .int .i64 0) rfl
      have q2 := hR2.at_ (i := 2) (u := .int .i64 0) rfl
      have q3 := hR2.at_ (i := 3) (u := .slice none 0 0) rfl
      have f0 := hR2.free 0
      have f1 := hR2.free 1
      have f2 := hR2.free 2
      have f3 := hR2.free 3
      go_wp2_with fail
      refine (get_long l b o _ _ HL24.out hr2).mono ?_
      rintro e w3 ⟨rfl, rfl⟩
      go_wp2_with fail
      refine ret_open _ g _ 0 0 0 none 0 0 3 _ rfl rfl rfl ((((hR2.put 0 (.int .i64 0)).put 1 (.int .i64 0)).put 2 (.int .i64 0)).put 3 (.slice none 0 0)) ⟨?_, .inl ⟨fun h => hL h.1, rfl⟩⟩
      rw [← HG.out]
      exact (((hb2.setCell (p := ⟨g, 0, none⟩) (Nat.le_refl _) (.int .i64 0)).setCell (p := ⟨g, 1, none⟩) (Nat.le_refl _) (.int .i64 0)).setCell (p := ⟨g, 2, none⟩) (Nat.le_refl _) (.int .i64 0)).setCell (p := ⟨g, 3, none⟩) (Nat.le_refl _) (.slice none 0 0)
end Go.Proofs.Ytmnhgpkbdiobkaa.OpenW
