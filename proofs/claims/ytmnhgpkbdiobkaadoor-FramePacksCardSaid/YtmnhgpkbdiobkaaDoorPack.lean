/- The walk of frame.Pack. -/
import Derived.Test.YtmnhgpkbdiobkaaDoorPut
import Derived.Test.YtmnhgpkbdiobkaaDoorCrc
import Derived.Test.YtmnhgpkbdiobkaaDoorFramePlain
import Derived.Test.YtmnhgpkbdiobkaaDoorUtil
import Derived.Deep.RegionHeld3
import Derived.Deep.RegionLaw
set_option linter.unusedVariables false
namespace Go.Proofs.YtmnhgpkbdiobkaaDoor.PackW
open Go.RowKit PutW CrcW Fram Crc

/-- A frame as a value. -/
def frV (k lba seq : Int) (A : Option Addr) (m c : Nat) : Value := .agg #[.int .i64 k, .int .i64 lba, .int .i64 seq, .slice A m c]

theorem rd_src {w : World} {A : Option Addr} {xs : List Value} (h : Rd w A xs) (hx : 0 < xs.length) : ∃ ad, A = some ad ∧ ∀ j v, xs[j]? = some v → w.cell? (ad.add j) = some v := by
  obtain ⟨b, off, hA, _⟩ := h.form hx
  exact ⟨_, hA, fun j v hv => h.cells _ hA j v hv⟩

theorem splice_bytes (l d : List UInt8) (off : Nat) : (splice (u8v l) off (u8v d)).toArray = (u8v (splL l off d)).toArray := by
  unfold splice splL u8v
  simp [List.map_take, List.map_drop]

theorem u8_size : (Tryd.prog.info? 5).map (·.size) = some 1 := by kernel_rfl

theorem rd_bk {w : World} {g : Nat} {e : TypeId} {l : List UInt8} (h : Bk w g e (u8v l).toArray) : Rd w (some ⟨g, 0, none⟩) (u8v l) :=
  .inr ⟨g, 0, rfl, fun i u hu => by rw [Nat.zero_add]; exact h.at_ (by simpa using hu)⟩

theorem zeros_made (n : Nat) : madeCells #[.int .u8 0] n = (u8v (List.replicate n 0)).toArray := by
  apply Array.toList_inj.1
  rw [toList_madeCells_one]
  simp [u8v]

theorem make_bytes (n : Nat) (hn : n ≤ 4096) (w : World) : (Instr.makeSlice 22 (.int .i64 n) (.int .i64 n)).run Tryd.prog w = .ok (.slice (some ⟨w.heap.size, 0, none⟩) n n) (w.alloc (.cells (u8v (List.replicate n 0)).toArray 5)) := by
  obtain ⟨i0, hi0, hz0, hz1, hz2⟩ := info_parts u8_info
  have hr := run_make (P := Tryd.prog) w 22 5 i0 _ Tryd.underlying22 hi0 hz0 .i64 .i64 n n (by omega) (by omega) (by rw [hz2]; omega) (by omega)
  rw [hr, hz1]
  simp only [Int.toNat_natCast, Nat.mul_one]
  rw [show (Value.int .u8 0).cells = #[.int .u8 0] from rfl, zeros_made]

/-- What Pack lays first. -/
theorem blank_cells (n : Nat) (kd : Int) (h0 : 0 ≤ kd) (h3 : kd ≤ 255) : ((((u8v (List.replicate n 0)).toArray.setIfInBounds 0 (.int .u8 165)).setIfInBounds 1 (.int .u8 kd)).setIfInBounds (n - 1) (.int .u8 90)) = (u8v (blankP n kd.toNat)).toArray := by
  have e1 : (Value.int .u8 165) = .int .u8 ((165 : UInt8).toNat : Int) := rfl
  have e2 : (Value.int .u8 90) = .int .u8 ((90 : UInt8).toNat : Int) := rfl
  have e3 : (Value.int .u8 kd) = .int .u8 ((UInt8.ofNat kd.toNat).toNat : Int) := by
    congr 1
    rw [UInt8.toNat_ofNat']
    omega
  rw [e1, e2, e3, bytes_set, bytes_set, bytes_set]
  rfl

set_option maxRecDepth 100000 in
set_option maxHeartbeats 2000000 in
theorem pack_ok (n : Nat) (k lba seq : Int) (A : Option Addr) (d : List UInt8) (m c : Nat) (w : World) (h24 : 24 ≤ n) (hmax : n ≤ 4096) (hk1 : 1 ≤ k) (hk3 : k ≤ 3) (hl0 : 0 ≤ lba) (hl : lba ≤ 4294967295) (hs0 : 0 ≤ seq) (hs : seq ≤ 4611686018427387904) (hm : m = d.length) (hmn : m + 21 ≤ n) (hr : Rd w A (u8v d)) :
    Calls Tryd.prog 6 #[.int .i64 n, frV k lba seq A m c] w fun e w' => ∃ v, e = .returned (.tuple #[v, .nilIface]) ∧ w'.ownsRow w.heap.size 5 1 v n (u8v (pack n k.toNat lba.toNat seq.toNat d)) ∧ Below w.heap.size w w' := by
  have hmk := fun W => make_bytes n hmax W
  have HM := hide hm
  clear hm
  have hb0 : Below w.heap.size w (w.alloc (.cells #[.int .i64 k, .int .i64 lba, .int .i64 seq, .slice A m c] 24)) := (Below.refl _ _).alloc (Nat.le_refl _) _
  have hF0 : Bk (w.alloc (.cells #[.int .i64 k, .int .i64 lba, .int .i64 seq, .slice A m c] 24)) w.heap.size 24 #[.int .i64 k, .int .i64 lba, .int .i64 seq, .slice A m c] := Bk.new _ _ _
  obtain ⟨p0, hp0⟩ : ∃ p0, p0 = List.replicate n (0 : UInt8) := ⟨_, rfl⟩
  rw [← hp0] at hmk
  have HP := hide hp0
  clear hp0
  unfold frV
  go_enter Tryd.func6, Tryd.ntmps6
  go_wp2_with fail
  have hF1 := hF0.alloc (.cells (u8v p0).toArray 5)
  have hB1 := Bk.new (w.alloc (.cells #[.int .i64 k, .int .i64 lba, .int .i64 seq, .slice A m c] 24)) 5 (u8v p0).toArray
  have hb1 := hb0.alloc hb0.size (.cells (u8v p0).toArray 5)
  have hg1 : (w.alloc (.cells #[.int .i64 k, .int .i64 lba, .int .i64 seq, .slice A m c] 24)).heap.size = w.heap.size + 1 := by simp
  rw [hg1] at hB1
  generalize (w.alloc (.cells #[.int .i64 k, .int .i64 lba, .int .i64 seq, .slice A m c] 24)).alloc (.cells (u8v p0).toArray 5) = w1 at hF1 hB1 hb1 ⊢
  obtain ⟨g, hg⟩ : ∃ g, g = w.heap.size + 1 := ⟨_, rfl⟩
  rw [← hg] at hB1 ⊢
  obtain ⟨gb, hgb⟩ : ∃ gb, gb = w.heap.size := ⟨_, rfl⟩
  rw [← hgb] at hF1 hb1 ⊢
  have hlt : gb < g := by omega
  have hne : ¬ gb = g := by omega
  have hne' : ¬ g = gb := by omega
  have HGB := hide hgb
  clear hb0 hF0 hg1 hg hgb
  have hlen : p0.length = n := by rw [HP.out]; simp
  have HLEN := hide hlen
  have ex : ∀ i, i < n → ∃ u, w1.cell? ⟨g, i, none⟩ = some u := fun i hi => ⟨_, hB1.at_ (bytes_at p0 i (by rw [hlen]; exact hi))⟩
  obtain ⟨u0, hu0⟩ := ex 0 (by omega)
  obtain ⟨u1, hu1⟩ := ex 1 (by omega)
  obtain ⟨u2, hu2⟩ := ex (n - 1) (by omega)
  have f0 := hB1.free 0
  have f1 := hB1.free 1
  have f2 := hB1.free (n - 1)
  have q0 := hF1.at_ (i := 0) (u := .int .i64 k) rfl
  have hn1 : ¬ n - 1 = 0 := by omega
  have hn2 : ¬ n - 1 = 1 := by omega
  have hn3 : ¬ 0 = n - 1 := by omega
  have hn4 : ¬ 1 = n - 1 := by omega
  clear ex hlen
  go_region
  have hB2 := (((hB1.put 0 (.int .u8 165)).put 1 (.int .u8 k)).put (n - 1) (.int .u8 90)).drew
  have hF2 := (((hF1.far (p := ⟨g, 0, none⟩) hne (.int .u8 165)).far (p := ⟨g, 1, none⟩) hne (.int .u8 k)).far (p := ⟨g, n - 1, none⟩) hne (.int .u8 90)).drew
  have hb2 := (((hb1.setCell (p := ⟨g, 0, none⟩) (Nat.le_of_lt hlt) (.int .u8 165)).setCell (p := ⟨g, 1, none⟩) (Nat.le_of_lt hlt) (.int .u8 k)).setCell (p := ⟨g, n - 1, none⟩) (Nat.le_of_lt hlt) (.int .u8 90)).drew
  rw [HP.out, blank_cells n k (by omega) (by omega)] at hB2
  generalize (((w1.setCell ⟨g, 0, none⟩ (.int .u8 165)).setCell ⟨g, 1, none⟩ (.int .u8 k)).setCell ⟨g, n - 1, none⟩ (.int .u8 90)).drew = w2 at hB2 hF2 hb2 ⊢
  have hl2 : (blankP n k.toNat).length = n := by simp [blankP]
  obtain ⟨p2, hp2⟩ : ∃ p2, p2 = blankP n k.toNat := ⟨_, rfl⟩
  rw [← hp2] at hB2 hl2
  have HP2 := hide hp2
  have HL2 := hide hl2
  clear hu0 hu1 hu2 f0 f1 f2 q0 hB1 hF1 hb1 hp2 hl2 hn1 hn2 hn3 hn4
  have z1 : (6 : Int) ≤ (n : Int) := by omega
  have z2 : (14 : Int) ≤ (n : Int) := by omega
  have z3 : (16 : Int) ≤ (n : Int) := by omega
  have z4 : (20 : Int) ≤ (n : Int) := by omega
  have x1 : IntKind.u64.wrap lba = lba := by rw [IntKind.wrap_u64]; omega
  have x2 : IntKind.u64.wrap seq = seq := by rw [IntKind.wrap_u64]; omega
  have x3 : IntKind.u64.wrap (m : Int) = (m : Int) := by rw [IntKind.wrap_u64]; omega
  have y1 : ¬ n = 2 := by omega
  have y2 : ¬ n = 6 := by omega
  have y3 : ¬ n = 14 := by omega
  have y4 : ¬ n = 16 := by omega
  have y5 : ¬ n = 20 := by omega
  have q2 := hF2.at_ (i := 1) (u := .int .i64 lba) rfl
  go_wp2_with fail
  go_region_held3 (fun w' => w'.cell? ⟨gb, 1, none⟩ = some (.int .i64 lba))
    (first | exact hF2.drew.at_ (i := 1) (u := .int .i64 lba) rfl | exact hF3.at_ (i := 1) (u := .int .i64 lba) rfl)
    (first
      | (go_at_call 21
         with_reducible refine (put_int g 2 4 _ p2 lba _ (by exact hB2.drew) (by rw [HL2.out]; omega) (by omega) hl0).mono ?_
         rintro e w3 ⟨rfl, hB3, hg3⟩
         have hF3 := hF2.drew.grown hg3 (fun e => hne (Option.some.inj e))))
  have hb3 := hb2.drew.grown hg3 (Nat.le_trans (Nat.le_of_lt hF2.lt) (Nat.le_refl _)) (fun j hj => by injection hj with hj; rw [← hj]; exact Nat.le_of_lt hlt)
  obtain ⟨p3, hp3⟩ : ∃ p3, p3 = splL p2 2 (lowB (lba).toNat 4) := ⟨_, rfl⟩
  have HL3 := hide (show p3.length = n by rw [hp3, splL_length _ _ _ (by rw [lowB_length, HL2.out]; omega), HL2.out])
  rw [← hp3] at hB3
  have HP3 := hide hp3
  clear hp3 hg3 hB2 hF2 hb2 q2
  have q3 := hF3.at_ (i := 2) (u := .int .i64 seq) rfl
  go_wp2_with fail
  go_region_held3 (fun w' => w'.cell? ⟨gb, 2, none⟩ = some (.int .i64 seq))
    (first | exact hF3.drew.at_ (i := 2) (u := .int .i64 seq) rfl | exact hF4.at_ (i := 2) (u := .int .i64 seq) rfl)
    (first
      | (go_at_call 21
         with_reducible refine (put_int g 6 8 _ p3 seq _ (by exact hB3.drew) (by rw [HL3.out]; omega) (by omega) hs0).mono ?_
         rintro e w4 ⟨rfl, hB4, hg4⟩
         have hF4 := hF3.drew.grown hg4 (fun e => hne (Option.some.inj e))))
  have hb4 := hb3.drew.grown hg4 (Nat.le_trans (Nat.le_of_lt hF3.lt) (Nat.le_refl _)) (fun j hj => by injection hj with hj; rw [← hj]; exact Nat.le_of_lt hlt)
  obtain ⟨p4, hp4⟩ : ∃ p4, p4 = splL p3 6 (lowB (seq).toNat 8) := ⟨_, rfl⟩
  have HL4 := hide (show p4.length = n by rw [hp4, splL_length _ _ _ (by rw [lowB_length, HL3.out]; omega), HL3.out])
  rw [← hp4] at hB4
  have HP4 := hide hp4
  clear hp4 hg4 hB3 hF3 hb3 q3
  have q4 := hF4.at_ (i := 3) (u := .slice A m c) rfl
  go_wp2_with fail
  go_region_held3 (fun w' => w'.cell? ⟨gb, 3, none⟩ = some (.slice A m c))
    (first | exact hF4.drew.at_ (i := 3) (u := .slice A m c) rfl | exact hF5.at_ (i := 3) (u := .slice A m c) rfl)
    (first
      | (go_at_call 21
         with_reducible refine (put_int g 14 2 _ p4 (m : Int) _ (by exact hB4.drew) (by rw [HL4.out]; omega) (by omega) (by omega)).mono ?_
         rintro e w5 ⟨rfl, hB5, hg5⟩
         have hF5 := hF4.drew.grown hg5 (fun e => hne (Option.some.inj e))))
  have hb5 := hb4.drew.grown hg5 (Nat.le_trans (Nat.le_of_lt hF4.lt) (Nat.le_refl _)) (fun j hj => by injection hj with hj; rw [← hj]; exact Nat.le_of_lt hlt)
  obtain ⟨p5, hp5⟩ : ∃ p5, p5 = splL p4 14 (lowB ((m : Int)).toNat 2) := ⟨_, rfl⟩
  have HL5 := hide (show p5.length = n by rw [hp5, splL_length _ _ _ (by rw [lowB_length, HL4.out]; omega), HL4.out])
  rw [← hp5] at hB5
  have HP5 := hide hp5
  clear hp5 hg5 hB4 hF4 hb4 q4
  have q5 := hF5.at_ (i := 3) (u := .slice A m c) rfl
  have hr5 : Rd w5 A (u8v d) := hr.below (by rw [← HGB.out]; exact hb5)
  have hmin : (u8v d).length = Nat.min m (n - 20) := by rw [u8v_length, ← HM.out]; exact (Nat.min_eq_left (by omega)).symm
  have HMIN := hide hmin
  clear hmin
  go_wp2_with fail
  go_region_held3 (fun w' => w'.cell? ⟨gb, 3, none⟩ = some (.slice A m c))
    (first | exact hF5.drew.at_ (i := 3) (u := .slice A m c) rfl | exact hF6.at_ (i := 3) (u := .slice A m c) rfl)
    (first
      | (refine step_copy_splice rfl (.tmp 85) (.tmp 87) 22 22 rfl 5 Tryd.underlying22 u8_size (some ⟨g, 20, none⟩) A (n - 20) (n - 20) m c rfl rfl g 20 (u8v p5) 5 ?_ (u8v d) HMIN.out ?_ ?_ (u8v_one d) g w5.drew (Below.refl _ _) (Nat.le_refl _) ?_
         · exact hB5.drew
         · intro hpos
           exact ⟨rfl, rd_src hr5.drew hpos⟩
         · rw [u8v_length, u8v_length, HL5.out, ← HM.out]; omega
         intro w6 HB6 hb6
         have hF6 := hF5.drew.below hb6 hlt))
  have hB6 : Bk w6 g 5 (u8v (splL p5 20 d)).toArray := by rw [← splice_bytes]; exact HB6.out
  have hb6' : Below gb w w6 := hb5.drew.trans (hb6.mono (Nat.le_of_lt hlt))
  obtain ⟨p6, hp6⟩ : ∃ p6, p6 = splL p5 20 d := ⟨_, rfl⟩
  have HL6 := hide (show p6.length = n by rw [hp6, splL_length _ _ _ (by rw [← HM.out, HL5.out]; omega), HL5.out])
  rw [← hp6] at hB6
  have HP6 := hide hp6
  clear hp6 HB6 hb6 hB5 hF5 hb5 q5 hr5
  obtain ⟨C, hC⟩ : ∃ C, C = crc p6 := ⟨_, rfl⟩
  have hCl := C.isLt
  have x4 : IntKind.u64.wrap (C.toNat : Int) = (C.toNat : Int) := by rw [IntKind.wrap_u64]; omega
  have HC := hide hC
  have H6 := hide (HL6.out).symm
  clear hC
  go_wp2_with fail
  go_region_with (first
    | (go_at_call 11
       with_reducible refine (crc_any (some ⟨g, 0, none⟩) p6 n n _ H6.out (by omega) (by exact (rd_bk hB6).drew)).mono ?_
       rintro e w' ⟨rfl, rfl⟩
       rw [← HC.out])
    | (go_at_call 21
       with_reducible refine (put_int g 16 4 _ p6 (C.toNat : Int) _ (by exact hB6.drew) (by rw [HL6.out]; omega) (by omega) (by omega)).mono ?_
       rintro e w7 ⟨rfl, hB7, hg7⟩))
  have hb7 := hb6'.drew.grown hg7 (Nat.le_trans (Nat.le_of_lt (Nat.lt_trans hlt hB6.lt)) (Nat.le_refl _)) (fun j hj => by injection hj with hj; rw [← hj]; exact Nat.le_of_lt hlt)
  go_wp2_with fail
  go_ret2
  have hfin : splL p6 16 (lowB C.toNat 4) = pack n k.toNat lba.toNat seq.toNat d := by
    have hb := built n k.toNat lba.toNat seq.toNat d (lowB C.toNat 4) (by rw [← HM.out]; omega) h24 (lowB_length _ _)
    have e6 : p6 = splL (splL (splL (splL (blankP n k.toNat) 2 (lowB lba.toNat 4)) 6 (lowB seq.toNat 8)) 14 (lowB d.length 2)) 20 d := by
      rw [HP6.out, HP5.out, HP4.out, HP3.out, HP2.out, Int.toNat_natCast, HM.out]
    rw [← e6] at hb
    unfold pack
    rw [← hb.2, ← HC.out, hb.1]
  have hB8 : Bk w7 g 5 (u8v (pack n k.toNat lba.toNat seq.toNat d)).toArray := by rw [← hfin]; exact hB7
  have hpl := pack_length n k.toNat lba.toNat seq.toNat d (by rw [← HM.out]; omega)
  refine ⟨_, rfl, ?_, by rw [← HGB.out]; exact hb7⟩
  have ho := own_of_bk (base := w.heap.size) (n := n) (cap := n) hB8 (by rw [← HGB.out]; exact Nat.le_of_lt hlt) (Nat.le_refl _) (by simp only [maxLen]; omega) (by simp [u8v, hpl])
  rwa [List.take_of_length_le (by simp [u8v, hpl])] at ho

/-- What is refused. -/
def Fits (n m k lba seq : Int) : Prop := 24 ≤ n ∧ n ≤ 4096 ∧ 1 ≤ k ∧ k ≤ 3 ∧ 0 ≤ lba ∧ lba ≤ 4294967295 ∧ 0 ≤ seq ∧ seq ≤ 4611686018427387904

set_option maxRecDepth 100000 in
set_option maxHeartbeats 2000000 in
theorem pack_range (n k lba seq : Int) (A : Option Addr) (m c : Nat) (w : World) (h1 : -9223372036854775808 ≤ n) (h2 : n ≤ 9223372036854775807) (h : ¬ Fits n m k lba seq) :
    Calls Tryd.prog 6 #[.int .i64 n, frV k lba seq A m c] w fun e w' => e = .returned (.tuple #[.slice none 0 0, .iface 29 (.int .i64 1)]) ∧ Below w.heap.size w w' := by
  have hb0 : Below w.heap.size w (w.alloc (.cells #[.int .i64 k, .int .i64 lba, .int .i64 seq, .slice A m c] 24)) := (Below.refl _ _).alloc (Nat.le_refl _) _
  unfold frV
  have ho : n < 24 ∨ (24 ≤ n ∧ 4096 < n) ∨ (24 ≤ n ∧ n ≤ 4096 ∧ k < 1) ∨ (24 ≤ n ∧ n ≤ 4096 ∧ 1 ≤ k ∧ 3 < k) ∨ (24 ≤ n ∧ n ≤ 4096 ∧ 1 ≤ k ∧ k ≤ 3 ∧ lba < 0) ∨ (24 ≤ n ∧ n ≤ 4096 ∧ 1 ≤ k ∧ k ≤ 3 ∧ 0 ≤ lba ∧ 4294967296 ≤ lba) ∨
      (24 ≤ n ∧ n ≤ 4096 ∧ 1 ≤ k ∧ k ≤ 3 ∧ 0 ≤ lba ∧ lba < 4294967296 ∧ seq < 0) ∨ (24 ≤ n ∧ n ≤ 4096 ∧ 1 ≤ k ∧ k ≤ 3 ∧ 0 ≤ lba ∧ lba < 4294967296 ∧ 0 ≤ seq ∧ 4611686018427387904 < seq) := by
    unfold Fits at h
    omega
  clear h
  rcases ho with o | ⟨o1, o⟩ | ⟨o1, o2, o⟩ | ⟨o1, o2, o3, o⟩ | ⟨o1, o2, o3, o4, o⟩ | ⟨o1, o2, o3, o4, o5, o⟩ | ⟨o1, o2, o3, o4, o5, o6, o⟩ | ⟨o1, o2, o3, o4, o5, o6, o7, o⟩
  all_goals
    go_enter Tryd.func6, Tryd.ntmps6
    go_wp2_with fail
    go_ret2
    exact ⟨rfl, hb0⟩

set_option maxRecDepth 100000 in
set_option maxHeartbeats 2000000 in
theorem pack_full (n k lba seq : Int) (A : Option Addr) (m c : Nat) (w : World) (h : Fits n m k lba seq) (hf : n - 21 < m) :
    Calls Tryd.prog 6 #[.int .i64 n, frV k lba seq A m c] w fun e w' => e = .returned (.tuple #[.slice none 0 0, .iface 29 (.int .i64 3)]) ∧ Below w.heap.size w w' := by
  have hb0 : Below w.heap.size w (w.alloc (.cells #[.int .i64 k, .int .i64 lba, .int .i64 seq, .slice A m c] 24)) := (Below.refl _ _).alloc (Nat.le_refl _) _
  unfold frV
  obtain ⟨o1, o2, o3, o4, o5, o6, o7, o8⟩ := h
  go_enter Tryd.func6, Tryd.ntmps6
  go_wp2_with fail
  go_ret2
  exact ⟨rfl, hb0⟩
end Go.Proofs.YtmnhgpkbdiobkaaDoor.PackW
