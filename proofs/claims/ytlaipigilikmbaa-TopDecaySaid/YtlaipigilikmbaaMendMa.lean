/- The walk of code.Mend. -/
import Derived.Test.YtlaipigilikmbaaMa1
import Derived.Test.YtlaipigilikmbaaProtectMa
namespace Go.Proofs.Ytlaipigilikmbaa.MendW
open Go.RowKit Pop PlacesW WordW ProtectW BitsW

/-- What a word with its check byte asks for: 0 nothing; 1 the check byte was wrong; 2 + k bit k of the word was; 100 it is lost. -/
def synd (x c : Nat) : Nat := (chk x ^^^ c) &&& 127
def fixOf (x c : Nat) : Nat :=
  if (popc 64 x + popc 8 c) % 2 = 0 then (if synd x c = 0 then 0 else 100)
  else if popc 8 (synd x c) ≤ 1 then 1
  else if 63 < synd x c - blen (synd x c) - 1 then 100
  else 2 + (synd x c - blen (synd x c) - 1)

def flipAt (l : List UInt8) (i : Nat) (j : Nat) : List UInt8 := l.set (8 * i + j / 8) (l.getD (8 * i + j / 8) 0 ^^^ UInt8.ofNat (2 ^ (j % 8)))

/-- What k words were, and how many had a bit turned; none: one of them is lost. -/
def mendTo (l cs : List UInt8) : Nat → Option (List UInt8 × Nat)
  | 0 => some (l, 0)
  | k + 1 => (mendTo l cs k).bind fun r =>
    if fixOf (wordAt l k) (cs.getD k 0).toNat = 100 then none
    else if fixOf (wordAt l k) (cs.getD k 0).toNat = 0 then some r
    else if fixOf (wordAt l k) (cs.getD k 0).toNat = 1 then some (r.1, r.2 + 1)
    else some (flipAt r.1 k (fixOf (wordAt l k) (cs.getD k 0).toNat - 2), r.2 + 1)

theorem mendTo_none (l cs : List UInt8) (k d : Nat) (h : mendTo l cs k = none) : mendTo l cs (k + d) = none := by
  induction d with
  | zero => exact h
  | succ d ih => show (mendTo l cs (k + d)).bind _ = none; rw [ih]; rfl

theorem mendTo_length (l cs : List UInt8) (k : Nat) (out : List UInt8) (m : Nat) (h : mendTo l cs k = some (out, m)) : out.length = l.length ∧ m ≤ k := by
  induction k generalizing out m with
  | zero => simp [mendTo] at h; obtain ⟨rfl, rfl⟩ := h; simp
  | succ k ih =>
    simp only [mendTo] at h
    cases hr : mendTo l cs k with
    | none => rw [hr] at h; cases h
    | some r =>
      obtain ⟨o, q⟩ := r
      obtain ⟨h1, h2⟩ := ih o q hr
      rw [hr] at h
      simp only [Option.bind_some] at h
      split at h
      · cases h
      · split at h
        · cases h; exact ⟨h1, by omega⟩
        · split at h
          · cases h; exact ⟨h1, by omega⟩
          · cases h; exact ⟨by simp [flipAt, h1], by omega⟩

theorem mendTo_zero (l cs : List UInt8) : mendTo l cs 0 = some (l, 0) := rfl

theorem flip_cells (l : List UInt8) (i j : Nat) : u8v (flipAt l i j) = (u8v l).set (8 * i + j / 8) (.int .u8 ((l.getD (8 * i + j / 8) 0 ^^^ UInt8.ofNat (2 ^ (j % 8))).toNat : Int)) := by
  unfold flipAt u8v
  rw [List.map_set]

def MendPost (B : Nat) (n : Nat) (r : Option (List UInt8 × Nat)) (w : World) (e : Ending) (w' : World) : Prop :=
  Below B w w' ∧ match r with
  | none => e = .returned (.tuple #[.slice none 0 0, .int .i64 0, .iface 52 (.int .i64 8)])
  | some (out, m) => ∃ v, e = .returned (.tuple #[v, .int .i64 m, .nilIface]) ∧ w'.ownsRow B 5 1 v n (u8v out)

section
variable {l cs : List UInt8} {k c : Nat} {out : List UInt8}
theorem step_fine (h : mendTo l cs k = some (out, c)) (hf : fixOf (wordAt l k) (cs.getD k 0).toNat = 0) : mendTo l cs (k + 1) = some (out, c) := by
  simp only [mendTo, h, hf, Option.bind_some]; rfl
theorem step_check (h : mendTo l cs k = some (out, c)) (hf : fixOf (wordAt l k) (cs.getD k 0).toNat = 1) : mendTo l cs (k + 1) = some (out, c + 1) := by
  simp only [mendTo, h, hf, Option.bind_some]; rfl
theorem step_flip (j : Nat) (hj : j ≤ 63) (h : mendTo l cs k = some (out, c)) (hf : fixOf (wordAt l k) (cs.getD k 0).toNat = 2 + j) : mendTo l cs (k + 1) = some (flipAt out k j, c + 1) := by
  simp only [mendTo, h, hf, Option.bind_some]
  rw [if_neg (by omega), if_neg (by omega), if_neg (by omega), Nat.add_sub_cancel_left]
theorem step_lost (h : mendTo l cs k = some (out, c)) (hf : fixOf (wordAt l k) (cs.getD k 0).toNat = 100) : mendTo l cs (k + 1) = none := by
  simp only [mendTo, h, hf, Option.bind_some]; rfl
end

theorem fix_fine {x c : Nat} (h1 : (popc 64 x + popc 8 c) % 2 = 0) (h2 : synd x c = 0) : fixOf x c = 0 := by unfold fixOf; rw [if_pos h1, if_pos h2]
theorem fix_lost {x c : Nat} (h1 : (popc 64 x + popc 8 c) % 2 = 0) (h2 : synd x c ≠ 0) : fixOf x c = 100 := by unfold fixOf; rw [if_pos h1, if_neg h2]
theorem fix_check {x c : Nat} (h1 : (popc 64 x + popc 8 c) % 2 ≠ 0) (h2 : popc 8 (synd x c) ≤ 1) : fixOf x c = 1 := by unfold fixOf; rw [if_neg h1, if_pos h2]
theorem fix_far {x c : Nat} (h1 : (popc 64 x + popc 8 c) % 2 ≠ 0) (h2 : ¬ popc 8 (synd x c) ≤ 1) (h3 : 63 < synd x c - blen (synd x c) - 1) : fixOf x c = 100 := by unfold fixOf; rw [if_neg h1, if_neg h2, if_pos h3]
theorem fix_flip {x c : Nat} (h1 : (popc 64 x + popc 8 c) % 2 ≠ 0) (h2 : ¬ popc 8 (synd x c) ≤ 1) (h3 : ¬ 63 < synd x c - blen (synd x c) - 1) : fixOf x c = 2 + (synd x c - blen (synd x c) - 1) := by unfold fixOf; rw [if_neg h1, if_neg h2, if_neg h3]

theorem synd_lt (x c : Nat) : synd x c < 128 := by
  have : synd x c ≤ 127 := Nat.and_le_right
  omega

theorem blen_small : ∀ s : Fin 128, blen s.val ≤ 8 ∧ (¬ popc 8 s.val ≤ 1 → blen s.val + 1 ≤ s.val) := by decide +kernel

theorem synd_spelt (x : Nat) (y : UInt8) : bits .and .u8 (bits .xor .u8 (chk x : Nat) (y.toNat : Int)) 127 = ((synd x y.toNat : Nat) : Int) := by
  have h1 := chk_lt x
  have h2 := y.toNat_lt
  have hx : chk x ^^^ y.toNat < 2 ^ 8 := Nat.xor_lt_two_pow h1 h2
  rw [u8_xor_nat _ _ h1 (by omega)]
  exact u8_and_nat _ 127 (by omega) (by omega)

theorem par_spelt (a b : Nat) (ha : a ≤ 64) (hb : b ≤ 8) : bits .and .i64 ((a : Int) + (b : Int)) 1 = (((a + b) % 2 : Nat) : Int) := by
  rw [and_i64 (a + b) 1 _ 1 (by omega) rfl (by omega) (by omega), Nat.and_one_is_mod]

attribute [local irreducible] chk wordAt prot mk popc chkBy le mendTo fixOf synd blen flipAt

set_option maxRecDepth 100000 in
set_option maxHeartbeats 1000000 in
theorem mend_any (A C : Option Addr) (l cs : List UInt8) (n m cap capc : Nat) (w : World) (hn : n = l.length) (hm : m = cs.length) (h8 : n % 8 = 0) (hmax : n ≤ 4096) (hcap : n ≤ cap) (hc : m = n / 8) (hr : Rd w A (u8v l)) (hs : Rd w C (u8v cs)) :
    Calls Try.prog 11 #[.slice A n cap, .slice C m capc] w (MendPost w.heap.size n (mendTo l cs m) w) := by
  obtain ⟨i0, hi0, hz0, hz1, hz2⟩ := info_parts u8_info
  have HN := hide hn
  have HM := hide hm
  have H8 := hide h8
  have HC := hide hc
  have hcc : ((m : Int) != (n : Int) / 8) = false := by simp; omega
  have hml : m ≤ 512 := by omega
  clear hn hm h8 hc
  go_enter Try.func11, Try.ntmps11
  go_wp2_with (first
    | (go_at_call 20; refine (fits_ok A n cap _ H8.out hmax).mono ?_; rintro e w' ⟨rfl, rfl⟩)
    | (go_at_call 21; refine (places_any _).mono ?_; rintro e w1 ⟨rfl, hb1⟩)
    | (at_builtin
       have hb2 : Below w.heap.size w (w1.alloc (.cells #[.int .u64 (mk 0 64), .int .u64 (mk 1 64), .int .u64 (mk 2 64), .int .u64 (mk 3 64), .int .u64 (mk 4 64), .int .u64 (mk 5 64), .int .u64 (mk 6 64)] 58)) := hb1.alloc hb1.size _
       refine wpList_append_rd _ rfl (.const (.slice none 0 0)) (.tmp 30) 22 rfl w.heap.size 5 i0 _ 1 Try.underlying22 hi0 hz0 hz1 hz2 rfl (.slice none 0 0) 0 [] rfl (World.ownsRow_nil _ _ _ _) A n cap (u8v l) rfl (by rw [u8v_length, ← HN.out]) (by exact hr.below hb2) (u8v_one l) (by simp only [maxLen]; omega) (by omega) hb2.size ?_
       intro v9 w2 hown hg))
  simp only [Nat.zero_add, List.nil_append] at hown
  have hbl : Below w.heap.size w w2 := hb2.grown hg hb2.size (by simp [Value.ownBlock])
  have hB : Bk w2 w1.heap.size 58 #[.int .u64 (mk 0 64), .int .u64 (mk 1 64), .int .u64 (mk 2 64), .int .u64 (mk 3 64), .int .u64 (mk 4 64), .int .u64 (mk 5 64), .int .u64 (mk 6 64)] := (Bk.new w1 58 #[.int .u64 (mk 0 64), .int .u64 (mk 1 64), .int .u64 (mk 2 64), .int .u64 (mk 3 64), .int .u64 (mk 4 64), .int .u64 (mk 5 64), .int .u64 (mk 6 64)]).grown hg (by simp [Value.ownBlock])
  have hge : w.heap.size ≤ w1.heap.size := hb1.size
  generalize w1.heap.size = g at hB hge ⊢
  clear hb2 hb1 hg
  go_loopw [10, 34] (fun q i wr => ∃ (k c : Nat) (out : List UInt8), k ≤ m ∧ i = .int .i64 k ∧ q = .int .i64 c ∧ c ≤ k ∧ Hid (mendTo l cs k = some (out, c)) ∧ wr.ownsRow w.heap.size 5 1 v9 n (u8v out) ∧ Bk wr g 58 #[.int .u64 (mk 0 64), .int .u64 (mk 1 64), .int .u64 (mk 2 64), .int .u64 (mk 3 64), .int .u64 (mk 4 64), .int .u64 (mk 5 64), .int .u64 (mk 6 64)] ∧ Below w.heap.size w wr) (fun _ i _ => m - (intOf i).toNat)
  case atStart => exact ⟨0, 0, l, by omega, rfl, rfl, by omega, hide (mendTo_zero l cs), hown, hB, hbl⟩
  case round =>
    clear hown hB hbl
    obtain ⟨k, c, out, hk, rfl, rfl, hck, HT, hown, hB, hb⟩ := hrel
    by_cases hlt : k < m
    · obtain ⟨b, off, rfl, -, -⟩ := hr.form (by rw [u8v_length, ← HN.out]; have := HC.out; omega)
      obtain ⟨b2, off2, rfl, hcs⟩ := hs.at_ (i := k) (by rw [u8v_length, ← HM.out]; exact hlt)
      have hne : ¬ cap = 8 * k := by have := HC.out; omega
      have hrd := (hr.below hb).drop (8 * k) cap (by rw [u8v_length, ← HN.out]; exact hcap)
      rw [if_neg hne] at hrd
      have hrd' : Rd wr (some ⟨b, off + 8 * k, none⟩) (u8v (l.drop (8 * k))) := by simpa [u8v, Addr.add_lit] using hrd
      clear hrd
      have HDL := hide (show n - 8 * k = (l.drop (8 * k)).length by rw [List.length_drop, ← HN.out])
      have h8k : 8 ≤ n - 8 * k := by have := HC.out; omega
      have hwl := wordAt_lt l k
      have hkn : 8 * k ≤ n := by omega
      obtain ⟨y, hy⟩ : ∃ y : UInt8, y = cs.getD k 0 := ⟨_, rfl⟩
      have hcell : wr.cell? ⟨b2, off2 + k, none⟩ = some (.int .u8 (y.toNat : Int)) := by
        have hkl : k < cs.length := by rw [← HM.out]; exact hlt
        rw [hb.cell (World.block_lt_of_cell? w _ hcs), hcs, hy]
        simp [u8v, hkl]
      have hyl := y.toNat_lt
      clear hcs
      have HY := hide hy
      clear hy
      obtain ⟨c0, c1, c2, c3, c4, c5, c6⟩ := cells7 hB
      have hwat := fun A n cap w hn h8 hr => word_at A l k n cap w hn h8 hr
      have Hwat := Lib.hid hwat
      clear hwat
      obtain ⟨x, hx⟩ : ∃ x, x = wordAt l k := ⟨_, rfl⟩
      rw [← hx] at hwl Hwat
      have HX := hide hx
      clear hx
      have hdec1 : decide ((k : Int) < (m : Int)) = true := by simp; omega
      have hsy := synd_spelt x y
      have hsl := synd_lt x y.toNat
      have hp64 := popc_le 64 x
      have hp8 := popc_le 8 y.toNat
      have hpar := par_spelt _ _ hp64 hp8
      have Fine := hide (@fix_fine x y.toNat)
      have Lost := hide (@fix_lost x y.toNat)
      have Chk := hide (@fix_check x y.toNat)
      have Far := hide (@fix_far x y.toNat)
      have Flip := hide (@fix_flip x y.toNat)
      generalize synd x y.toNat = s at hsy hsl Fine Lost Chk Far Flip
      obtain ⟨hbl1, hbl2⟩ := blen_small ⟨s, hsl⟩
      simp only at hbl1 hbl2
      have HBL := hide hbl2
      clear hbl2
      have hpo : (popc 64 x + popc 8 y.toNat) % 2 = 0 ∨ (popc 64 x + popc 8 y.toNat) % 2 = 1 := by omega
      rcases hpo with hpo | hpo
      · rw [hpo] at hpar
        have HPO := hide hpo
        clear hpo
        by_cases hs0 : s = 0
        · have HF := hide (Fine.out HPO.out hs0)
          subst hs0
          go_wp2_with (first
            | (go_at_call 23; refine (Hwat.out _ _ _ _ HDL.out h8k (by exact hrd')).mono ?_; rintro e w' ⟨rfl, rfl⟩)
            | (go_at_call 22; refine (check_at _ hwl _).mono ?_; rintro e w3 ⟨rfl, hb3⟩; have hcell3 := (hb3.cell (p := ⟨b2, off2 + k, none⟩) (World.block_lt_of_cell? _ _ hcell)).trans hcell)
            | (go_at_call 24; refine (BitsW.ones64 _ hwl _).mono ?_; rintro e w' ⟨rfl, rfl⟩)
            | (go_at_call 25; refine (BitsW.ones8 _ (by omega) _).mono ?_; rintro e w' ⟨rfl, rfl⟩)
            | (go_at_call 26; refine (BitsW.len8 _ (by omega) _).mono ?_; rintro e w' ⟨rfl, rfl⟩))
          have hw3 := hb.trans (Below.mono hb3 hb.size)
          have hB3 := hB.below hb3 hB.lt
          have hown3 := own_below hown hb3 (Nat.le_refl _)
          go_roundw
          case rel => exact ⟨k + 1, c, out, by omega, by go_num, rfl, by omega, hide (step_fine HT.out (by rw [← HX.out, ← HY.out]; exact HF.out)), hown3, hB3, hw3⟩
          case measure => simp [intOf]; omega
        · have hst : ((s : Int) == 0) = false := by simp; omega
          have HS0 := hide hs0
          clear hs0
          go_wp2_with (first
            | (go_at_call 23; refine (Hwat.out _ _ _ _ HDL.out h8k (by exact hrd')).mono ?_; rintro e w' ⟨rfl, rfl⟩)
            | (go_at_call 22; refine (check_at _ hwl _).mono ?_; rintro e w3 ⟨rfl, hb3⟩; have hcell3 := (hb3.cell (p := ⟨b2, off2 + k, none⟩) (World.block_lt_of_cell? _ _ hcell)).trans hcell)
            | (go_at_call 24; refine (BitsW.ones64 _ hwl _).mono ?_; rintro e w' ⟨rfl, rfl⟩)
            | (go_at_call 25; refine (BitsW.ones8 _ (by omega) _).mono ?_; rintro e w' ⟨rfl, rfl⟩)
            | (go_at_call 26; refine (BitsW.len8 _ (by omega) _).mono ?_; rintro e w' ⟨rfl, rfl⟩))
          have hw3 := hb.trans (Below.mono hb3 hb.size)
          have hB3 := hB.below hb3 hB.lt
          have hown3 := own_below hown hb3 (Nat.le_refl _)
          go_ret3
          have hnone := mendTo_none l cs (k + 1) (m - (k + 1)) (step_lost HT.out (by rw [← HX.out, ← HY.out]; exact Lost.out HPO.out HS0.out))
          rw [show k + 1 + (m - (k + 1)) = m from by omega] at hnone
          refine ⟨hw3, ?_⟩
          rw [hnone]
          rfl
      · rw [hpo] at hpar
        have HPO := hide (show (popc 64 x + popc 8 y.toNat) % 2 ≠ 0 by omega)
        clear hpo
        by_cases hs1 : popc 8 s ≤ 1
        · have HF := hide (Chk.out HPO.out hs1)
          go_wp2_with (first
            | (go_at_call 23; refine (Hwat.out _ _ _ _ HDL.out h8k (by exact hrd')).mono ?_; rintro e w' ⟨rfl, rfl⟩)
            | (go_at_call 22; refine (check_at _ hwl _).mono ?_; rintro e w3 ⟨rfl, hb3⟩; have hcell3 := (hb3.cell (p := ⟨b2, off2 + k, none⟩) (World.block_lt_of_cell? _ _ hcell)).trans hcell)
            | (go_at_call 24; refine (BitsW.ones64 _ hwl _).mono ?_; rintro e w' ⟨rfl, rfl⟩)
            | (go_at_call 25; refine (BitsW.ones8 _ (by omega) _).mono ?_; rintro e w' ⟨rfl, rfl⟩)
            | (go_at_call 26; refine (BitsW.len8 _ (by omega) _).mono ?_; rintro e w' ⟨rfl, rfl⟩))
          have hw3 := hb.trans (Below.mono hb3 hb.size)
          have hB3 := hB.below hb3 hB.lt
          have hown3 := own_below hown hb3 (Nat.le_refl _)
          go_roundw
          case rel => exact ⟨k + 1, c + 1, out, by omega, by go_num, by go_num, by omega, hide (step_check HT.out (by rw [← HX.out, ← HY.out]; exact HF.out)), hown3, hB3, hw3⟩
          case measure => simp [intOf]; omega
        · have hge3 : blen s + 1 ≤ s := HBL.out hs1
          have hs1' : 1 < popc 8 s := by omega
          obtain ⟨j, hj⟩ : ∃ j, j = s - blen s - 1 := ⟨_, rfl⟩
          have hjj : (s : Int) - (blen s : Int) - 1 = (j : Int) := by omega
          by_cases hfar : 63 < j
          · have HF := hide (Far.out HPO.out hs1 (by rw [← hj]; exact hfar))
            clear hj hs1
            go_wp2_with (first
              | (go_at_call 23; refine (Hwat.out _ _ _ _ HDL.out h8k (by exact hrd')).mono ?_; rintro e w' ⟨rfl, rfl⟩)
              | (go_at_call 22; refine (check_at _ hwl _).mono ?_; rintro e w3 ⟨rfl, hb3⟩; have hcell3 := (hb3.cell (p := ⟨b2, off2 + k, none⟩) (World.block_lt_of_cell? _ _ hcell)).trans hcell)
              | (go_at_call 24; refine (BitsW.ones64 _ hwl _).mono ?_; rintro e w' ⟨rfl, rfl⟩)
              | (go_at_call 25; refine (BitsW.ones8 _ (by omega) _).mono ?_; rintro e w' ⟨rfl, rfl⟩)
              | (go_at_call 26; refine (BitsW.len8 _ (by omega) _).mono ?_; rintro e w' ⟨rfl, rfl⟩))
            have hw3 := hb.trans (Below.mono hb3 hb.size)
            have hB3 := hB.below hb3 hB.lt
            have hown3 := own_below hown hb3 (Nat.le_refl _)
            go_ret3
            have hnone := mendTo_none l cs (k + 1) (m - (k + 1)) (step_lost HT.out (by rw [← HX.out, ← HY.out]; exact HF.out))
            rw [show k + 1 + (m - (k + 1)) = m from by omega] at hnone
            refine ⟨hw3, ?_⟩
            rw [hnone]
            rfl
          · have HF := hide (Flip.out HPO.out hs1 (by rw [← hj]; exact hfar))
            rw [← hj] at HF
            clear hj hs1
            go_wp2_with (first
              | (go_at_call 23; refine (Hwat.out _ _ _ _ HDL.out h8k (by exact hrd')).mono ?_; rintro e w' ⟨rfl, rfl⟩)
              | (go_at_call 22; refine (check_at _ hwl _).mono ?_; rintro e w3 ⟨rfl, hb3⟩; have hcell3 := (hb3.cell (p := ⟨b2, off2 + k, none⟩) (World.block_lt_of_cell? _ _ hcell)).trans hcell)
              | (go_at_call 24; refine (BitsW.ones64 _ hwl _).mono ?_; rintro e w' ⟨rfl, rfl⟩)
              | (go_at_call 25; refine (BitsW.ones8 _ (by omega) _).mono ?_; rintro e w' ⟨rfl, rfl⟩)
              | (go_at_call 26; refine (BitsW.len8 _ (by omega) _).mono ?_; rintro e w' ⟨rfl, rfl⟩))
            have hw3 := hb.trans (Below.mono hb3 hb.size)
            have hB3 := hB.below hb3 hB.lt
            have hown3 := own_below hown hb3 (Nat.le_refl _)
            obtain ⟨g9, cap9, cur, rfl, hg1, hg2, hblk, hncap, hmx, hsz, -⟩ := own_block hown3 (by omega)
            have hlo := (mendTo_length l cs k out c HT.out).1
            have hin : 8 * k + j / 8 < out.length := by rw [hlo, ← HN.out]; have := HC.out; omega
            have hc9 : w3.cell? ⟨g9, 8 * k + j / 8, none⟩ = some (.int .u8 ((out.getD (8 * k + j / 8) 0).toNat : Int)) := by
              rw [hown3.cellAt _ (by rw [Nat.mul_one, HN.out, ← hlo]; exact hin), u8v_get _ _ hin]; simp [List.getD, hin]
            have hf9 := hown3.frozenAt (8 * k + j / 8)
            have hixn : 8 * k + j / 8 < n := by rw [HN.out, ← hlo]; exact hin
            clear hcell3 hcell hlo
            have HIN := hide hin
            clear hin
            go_region
            go_wp2
            go_roundw
            case rel =>
              have hxb := xor_bit (out.getD (8 * k + j / 8) 0) j
              simp only [List.getD_eq_getElem?_getD] at hxb
              rw [hxb]
              refine ⟨k + 1, c + 1, flipAt out k j, by omega, by go_num, by go_num, by omega, hide (step_flip j (by omega) HT.out (by rw [← HX.out, ← HY.out]; exact HF.out)), ?_, ?_, ?_⟩
              · rw [flip_cells, List.getD_eq_getElem?_getD]
                exact (hown3.stored _ _).1
              · exact (hB3.far (p := ⟨g9, 8 * k + j / 8, none⟩) (fun e => own_bk_ne hown3 hB3 (by decide) (by rw [e]; rfl)) _).drew
              · exact (hw3.setCell (p := ⟨g9, 8 * k + j / 8, none⟩) hg1 _).drew
            case measure => simp [intOf]; omega
    · go_wp2
      go_ret3
      obtain rfl : k = m := by omega
      refine ⟨hb, ?_⟩
      rw [HT.out]
      exact ⟨_, rfl, hown⟩

end Go.Proofs.Ytlaipigilikmbaa.MendW
