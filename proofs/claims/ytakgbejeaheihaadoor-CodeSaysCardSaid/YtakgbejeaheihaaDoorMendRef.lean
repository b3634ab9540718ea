/- The walks of granaryref1.ProtectOf and MendOf. -/
import Derived.Test.YtakgbejeaheihaaDoorCheckRef
import Derived.Test.YtakgbejeaheihaaDoorRefPlain
set_option linter.unusedVariables false
namespace Go.Proofs.YtakgbejeaheihaaDoor.RefW
open Go.RowKit Pop PlacesW WordW ProtectW MendW Ham CheckP

theorem rd_chunk {w : World} {b off : Nat} {l : List UInt8} (h : Rd w (some ⟨b, off, none⟩) (u8v l)) (k : Nat) : Rd w (some ⟨b, off + 8 * k, none⟩) (u8v (chunk l k)) := by
  rcases h with h | ⟨b', off', h, hc⟩
  · left
    have : l = [] := by simpa [u8v] using h
    simp [this, chunk, u8v]
  · injection h with h
    injection h with h1 h2
    subst h1 h2
    refine .inr ⟨b, off + 8 * k, rfl, fun i u hu => ?_⟩
    rw [Nat.add_assoc]
    refine hc (8 * k + i) u ?_
    unfold chunk u8v at *
    rw [List.map_take, List.map_drop] at hu
    rw [List.getElem?_take] at hu
    split at hu
    · rwa [List.getElem?_drop] at hu
    · cases hu

theorem xor_zero {a b : Nat} (h : a ^^^ b = 0) : a = b := by
  have := congrArg (fun z => z ^^^ b) h
  simp only [Nat.xor_assoc, Nat.xor_self, Nat.xor_zero, Nat.zero_xor] at this
  exact this

attribute [local irreducible] low popc chk le prot mendTo chunk wordAt flipBit

set_option maxHeartbeats 1000000 in
theorem protectOf_any (A : Option Addr) (l : List UInt8) (n cap : Nat) (w : World) (hn : n = l.length) (h8 : n % 8 = 0) (hmax : n ≤ 4096) (hcap : n ≤ cap) (hr : Rd w A (u8v l)) :
    Calls Tryd.prog 11 #[.slice A n cap] w fun e w' => ∃ v, e = .returned v ∧ w'.ownsRow w.heap.size 5 1 v (n / 8) (u8v (prot l (n / 8))) ∧ Below w.heap.size w w' := by
  obtain ⟨i0, hi0, hz0, hz1, hz2⟩ := info_parts u8_info
  obtain ⟨m, hm⟩ : ∃ m, n = 8 * m := ⟨n / 8, by omega⟩
  subst hm
  have hdiv : 8 * m / 8 = m := by omega
  rw [hdiv]
  have HN := hide hn
  clear hn h8 hdiv
  go_enter Tryd.func11, Tryd.ntmps11
  go_wp2_with fail
  go_loopw [3, 4] (fun v i wr => ∃ k : Nat, i = .int .i64 (8 * (k : Int)) ∧ k ≤ m ∧ wr.ownsRow w.heap.size 5 1 v k (u8v (prot l k)) ∧ Below w.heap.size w wr) (fun _ i _ => 8 * m - (intOf i).toNat)
  case atStart => exact ⟨0, rfl, by omega, by unfold prot; exact World.ownsRow_nil w w.heap.size 5 1, Below.refl _ _⟩
  case round =>
    obtain ⟨k, rfl, hk, hown, hb⟩ := hrel
    by_cases hlt : k < m
    · have hrw := hr.below hb
      obtain ⟨b, off, rfl, -, -⟩ := hrw.form (by rw [u8v_length, ← HN.out]; omega)
      have hch := rd_chunk hrw k
      have HCL : Hid (8 = (chunk l k).length) := hide (chunk_length l k m (by rw [← HN.out]) hlt).symm
      have HSC := hide (u8v_prot_succ l k)
      have hcl := chk_lt (wordAt l k)
      have hlt' : 8 * (k : Int) < 8 * (m : Int) := by omega
      have x1 : (8 * (k : Int)).toNat = 8 * k := by omega
      have x2 : (8 * (k : Int) + 8).toNat = 8 * k + 8 := by omega
      have x3 : 8 * k + 8 - 8 * k = 8 := by omega
      have y1 : ¬ cap = 8 * k := by omega
      have z1 : 8 * (k : Int) + 8 ≤ (cap : Int) := by omega
      have z2 : 8 * (k : Int) ≤ 8 * (k : Int) + 8 := by omega
      have hbs := hb.size
      have HCK : Hid (chk (le (chunk l k)) = chk (wordAt l k)) := hide (by rw [wordAt_chunk])
      obtain ⟨q, hq⟩ : ∃ q, q = chk (wordAt l k) := ⟨_, rfl⟩
      rw [← hq] at hcl HSC HCK
      generalize u8v (prot l k) = xs at hown HSC
      clear hq hrw
      go_wp2_with fail
      refine (checkOf_any _ (chunk l k) 8 _ _ HCL.out HCL.out.symm hch).mono ?_
      rintro e w1 ⟨rfl, rfl⟩
      rw [HCK.out]
      go_wp2_with (first
        | (at_builtin
           refine wpList_append_rd _ rfl (.tmp 18) (.tmp 21) 22 rfl w.heap.size 5 i0 _ 1 Tryd.underlying22 hi0 hz0 hz1 hz2 rfl _ k xs rfl (by exact hown.alloc _) _ 1 1 [.int .u8 (q : Nat)] rfl rfl (Rd.one _ _ _) ?_ ?_ ?_ ?_ ?_
           · intro u hu; simp at hu; subst hu; rfl
           · simp only [maxLen]; omega
           · omega
           · simp; omega
           intro v' w5 hown5 hg5
           have hb5 := below_own (hb.alloc hbs _) (hown.alloc _) hg5 (by simp; omega) (Nat.le_refl _)
           obtain ⟨D6, c6, rfl, -, -, -, -, -⟩ := own_form hown5))
      go_roundw
      case rel => exact ⟨k + 1, by go_num, by omega, by rw [HSC.out]; exact hown5, hb5⟩
      case measure => simp [intOf]; omega
    · obtain rfl : k = m := by omega
      have hlt' : ¬ 8 * (k : Int) < 8 * (k : Int) := by omega
      go_wp2_with fail
      go_ret
      exact ⟨_, rfl, hown, hb⟩

theorem u8_same (l : List UInt8) (i : Nat) (h : i < l.length) : (u8v l).set i (.int .u8 ((l.getD i 0).toNat : Int)) = u8v l := by
  have e : l.getD i 0 = l[i] := by simp [List.getD, h]
  rw [e]
  unfold u8v
  have := List.map_set (f := fun x : UInt8 => Value.int .u8 (x.toNat : Int)) (l := l) (i := i) (a := l[i])
  rw [← this, List.set_getElem_self]

theorem own_next {w : World} {B n m : Nat} {t : TypeId} {v : Value} {xs ys : List UInt8} (h : w.ownsRow B t 1 v n (u8v xs)) (e : n = m) (e2 : ys = xs) : w.ownsRow B t 1 v m (u8v ys) := by subst e e2; exact h

def MendRefPost (B : Nat) (n : Nat) (r : Option (List UInt8 × Nat)) (w : World) (e : Ending) (w' : World) : Prop :=
  Below B w w' ∧ match r with
  | none => e = .returned (.tuple #[.slice none 0 0, .int .i64 0, .bool false])
  | some (out, m) => ∃ v, e = .returned (.tuple #[v, .int .i64 m, .bool true]) ∧ w'.ownsRow B 5 1 v n (u8v out)

theorem found_at {x y t : Nat} (ht : t < 64) (hno : ∀ j, j < t → chk (x ^^^ 2 ^ j) ≠ y) (hy : chk (x ^^^ 2 ^ t) = y) : (List.range 64).find? (fun j => chk (x ^^^ 2 ^ j) == y) = some t := by
  rw [List.find?_range_eq_some]
  refine ⟨by simpa using hy, List.mem_range.2 ht, fun j hj => ?_⟩
  simpa using hno j hj
theorem found_none {x y : Nat} (hno : ∀ j, j < 64 → chk (x ^^^ 2 ^ j) ≠ y) : (List.range 64).find? (fun j => chk (x ^^^ 2 ^ j) == y) = none := by
  rw [List.find?_eq_none]
  intro j hj
  simpa using hno j (List.mem_range.1 hj)
theorem fix_zero {x y : Nat} (hy : y < 256) (h : chk x = y) : fixOf x y = 0 := by
  rw [fix_told x y hy, if_pos (by rw [h, Nat.xor_self])]
theorem fix_one {x y : Nat} (hy : y < 256) (h : chk x ≠ y) (h1 : (chk x ^^^ y) &&& ((chk x ^^^ y) - 1) = 0) : fixOf x y = 1 := by
  rw [fix_told x y hy, if_neg (fun e => h (xor_zero e)), if_pos h1]
theorem fix_found {x y j : Nat} (hy : y < 256) (h : chk x ≠ y) (h1 : (chk x ^^^ y) &&& ((chk x ^^^ y) - 1) ≠ 0) (hf : (List.range 64).find? (fun j => chk (x ^^^ 2 ^ j) == y) = some j) : fixOf x y = 2 + j := by
  rw [fix_told x y hy, if_neg (fun e => h (xor_zero e)), if_neg h1, hf]
theorem fix_nowhere {x y : Nat} (hy : y < 256) (h : chk x ≠ y) (h1 : (chk x ^^^ y) &&& ((chk x ^^^ y) - 1) ≠ 0) (hf : (List.range 64).find? (fun j => chk (x ^^^ 2 ^ j) == y) = none) : fixOf x y = 100 := by
  rw [fix_told x y hy, if_neg (fun e => h (xor_zero e)), if_neg h1, hf]
theorem u8v_app (l m : List UInt8) : u8v (l ++ m) = u8v l ++ u8v m := u8v_append l m

attribute [local irreducible] fixOf

set_option maxRecDepth 100000 in
set_option maxHeartbeats 4000000 in
theorem mendOf_any (A C : Option Addr) (l cs : List UInt8) (n m cap capc : Nat) (w : World) (hn : n = l.length) (hm : m = cs.length) (hc : n = 8 * m) (hmax : n ≤ 4096) (hcap : n ≤ cap) (hr : Rd w A (u8v l)) (hs : Rd w C (u8v cs)) :
    Calls Tryd.prog 13 #[.slice A n cap, .slice C m capc] w (MendRefPost w.heap.size n (mendTo l cs m) w) := by
  subst hc
  have HN := hide hn
  have HM := hide hm
  have H0 := hide (mendTo_zero l cs)
  clear hn hm
  go_enter Tryd.func13, Tryd.ntmps13
  go_wp2_with fail
  go_loopw [7, 8, 9] (fun v c i wr => ∃ (k q : Nat) (r : List UInt8), i = .int .i64 k ∧ c = .int .i64 q ∧ k ≤ m ∧ q ≤ k ∧ Hid (mendTo l cs k = some (r, q)) ∧ wr.ownsRow w.heap.size 5 1 v (8 * k) (u8v (r.take (8 * k))) ∧ Below w.heap.size w wr) (fun _ _ i _ => m - (intOf i).toNat)
  case atStart => exact ⟨0, 0, l, rfl, rfl, by omega, by omega, H0, by simpa [u8v] using World.ownsRow_nil w w.heap.size 5 1, Below.refl _ _⟩
  case round =>
    obtain ⟨k, q, r, rfl, rfl, hk, hqk, HT, hown, hb⟩ := hrel
    obtain ⟨wo, hwo⟩ : ∃ wo, wo = wr := ⟨_, rfl⟩
    subst hwo
    by_cases hlt : k < m
    · have hrw := hr.below hb
      have hsw := hs.below hb
      obtain ⟨b, off, rfl, -, -⟩ := hrw.form (by rw [u8v_length, ← HN.out]; omega)
      have hch := rd_chunk hrw k
      have HCL : Hid (8 = (chunk l k).length) := hide (chunk_length l k m (by rw [← HN.out]) hlt).symm
      have HDROP := hide (mend_drop l cs k r q HT.out)
      have HRL := hide (mendTo_length l cs k r q HT.out).1
      have HWA : Hid (wordAt l k = le (chunk l k)) := hide (wordAt_chunk l k)
      have HFINE := hide (take_fine HDROP.out)
      have x1 : (8 * (k : Int)).toNat = 8 * k := by omega
      have x2 : (8 * (k : Int) + 8).toNat = 8 * k + 8 := by omega
      have x3 : 8 * k + 8 - 8 * k = 8 := by omega
      have y1 : ¬ cap = 8 * k := by omega
      have z1 : 8 * (k : Int) + 8 ≤ (cap : Int) := by omega
      have z2 : 8 * (k : Int) ≤ 8 * (k : Int) + 8 := by omega
      have hbs := hb.size
      obtain ⟨bc, oc, rfl, hcc⟩ := hsw.at_ (i := k) (by rw [u8v_length, ← HM.out]; exact hlt)
      obtain ⟨y, hy⟩ : ∃ y, y = (cs.getD k 0).toNat := ⟨_, rfl⟩
      have hy256 : y < 256 := by rw [hy]; exact (cs.getD k 0).toNat_lt
      have hcy : wo.cell? ⟨bc, oc + k, none⟩ = some (.int .u8 (y : Nat)) := by
        rw [hcc, hy]
        simp [u8v, List.getD, ← HM.out, hlt]
      have hbcl := World.block_lt_of_cell? wo _ hcy
      have HY := hide hy
      obtain ⟨x, hx⟩ : ∃ x, x = le (chunk l k) := ⟨_, rfl⟩
      have HX := hide hx
      have hx256 := chk_lt2 x
      clear hcc hsw hrw hy hx
      obtain ⟨B1, hB1⟩ : ∃ B1, B1 = wo.heap.size := ⟨_, rfl⟩
      have HB1 := hide hB1
      have hB1s : B1 ≤ wo.heap.size := Nat.le_of_eq hB1
      have hempty := own_empty wo
      rw [← hB1] at hempty hbcl hbs
      clear hB1
      go_wp2_with (first
        | (at_builtin
           refine wpList_app _ rfl _ _ rfl B1 _ 0 [] rfl (by rw [HB1.out]; exact own_empty wo) (some ⟨b, off + 8 * k, none⟩) 8 _ (chunk l k) rfl HCL.out (by exact hch.alloc _) (by omega) (by simp; omega) ?_
           intro A4 c4 w4 hc4 ho4 hb4))
      rw [List.nil_append] at ho4
      simp only [Nat.zero_add] at ho4 hc4
      have hbA : Below B1 wo w4 := ((Below.refl _ _).alloc hB1s _).trans hb4
      obtain ⟨gw, rfl, hgw1, hgw2⟩ := own_at ho4 (by omega)
      have hr4 := Rd.of_own ho4
      have hown4 : w4.ownsRow w.heap.size 5 1 u7 (8 * k) (u8v (r.take (8 * k))) := own_below hown hbA (by rw [HB1.out]; exact Nat.le_refl _)
      have hcy4 := (hbA.cell (p := ⟨bc, oc + k, none⟩) hbcl).trans hcy
      have hw4 := hb.trans (hbA.mono hbs)
      have hs4 := hbA.size
      clear hb4 hempty hch
      go_wp2_with fail
      refine (checkOf_any _ (chunk l k) 8 _ _ HCL.out HCL.out.symm hr4).mono ?_
      rintro e w5 ⟨rfl, rfl⟩
      rw [← HX.out]
      have HCX : Hid (∀ z, fixOf x y = z → fixOf (wordAt l k) (cs.getD k 0).toNat = z) := hide fun z hz => by rw [HWA.out, ← HX.out, ← HY.out]; exact hz
      by_cases hxy : chk x = y
      · have he : (((chk x : Nat) : Int) == ((y : Nat) : Int)) = true := by rw [hxy]; simp
        have HST := hide (step_fine HT.out (HCX.out 0 (fix_zero hy256 hxy)))
        clear hxy
        go_wp2_with (first
          | (at_builtin
             refine wpList_app _ rfl _ _ rfl w.heap.size _ (8 * k) (r.take (8 * k)) rfl hown4 (some ⟨gw, 0, none⟩) 8 c4 (chunk l k) rfl HCL.out (by exact hr4) (by omega) (by omega) ?_
             intro A6 c6 w6 hc6 ho6 hb6))
        go_roundw
        case rel => exact ⟨k + 1, q, r, by go_num, rfl, by omega, by omega, HST, own_next ho6 (by omega) HFINE.out, hw4.trans hb6⟩
        case measure => simp [intOf]; omega
      have he : (((chk x : Nat) : Int) == ((y : Nat) : Int)) = false := by simp; omega
      have hxor := xor_i64 (chk x) y hx256 hy256
      have HNE := hide hxy
      obtain ⟨d, hd⟩ : ∃ d, d = chk x ^^^ y := ⟨_, rfl⟩
      have hd0 : d ≠ 0 := by rw [hd]; exact fun e => hxy (xor_zero e)
      have hd256 : d < 256 := by rw [hd]; exact xor_lt hx256 hy256
      have HD := hide hd
      rw [← hd] at hxor
      have hand := and_pow d (by omega) (by omega)
      clear hxy hd
      by_cases hp : d &&& (d - 1) = 0
      · rw [hp] at hand
        have HST := hide (step_check HT.out (HCX.out 1 (fix_one hy256 HNE.out (by rw [← HD.out]; exact hp))))
        clear hp
        go_wp2_with fail
        go_loopw [12, 14] (fun f t wq => f = .bool true ∧ t = .int .i64 0 ∧ wq = w4) (fun _ _ _ => 0)
        case atStart => exact ⟨rfl, rfl, rfl⟩
        case round =>
          obtain ⟨rfl, rfl, rfl⟩ := hrel
          go_wp2_with (first
            | (at_builtin
               refine wpList_app _ rfl _ _ rfl w.heap.size _ (8 * k) (r.take (8 * k)) rfl hown4 (some ⟨gw, 0, none⟩) 8 c4 (chunk l k) rfl HCL.out (by exact hr4) (by omega) (by omega) ?_
               intro A6 c6 w6 hc6 ho6 hb6))
          go_roundw
          case rel => exact ⟨k + 1, q + 1, r, by go_num, by go_num, by omega, by omega, HST, own_next ho6 (by omega) HFINE.out, hw4.trans hb6⟩
          case measure => simp [intOf]; omega
      · obtain ⟨pq, hpq⟩ : ∃ pq, pq = d &&& (d - 1) := ⟨_, rfl⟩
        have HPN : Hid ((chk x ^^^ y) &&& ((chk x ^^^ y) - 1) ≠ 0) := hide (by rw [← HD.out]; exact hp)
        rw [← hpq] at hand hp
        have hz : ((pq : Int) == 0) = false := by simp; omega
        clear hpq
        go_wp2_with fail
        go_loopw [12, 14] (fun f t wq => ∃ (j : Nat) (fl : Bool) (ws : List UInt8), t = .int .i64 j ∧ f = .bool fl ∧ j ≤ 64 ∧ Hid (8 = ws.length) ∧ wq.ownsRow B1 5 1 (.slice (some ⟨gw, 0, none⟩) 8 c4) 8 (u8v ws) ∧ Below B1 wo wq ∧
          Hid ((fl = false ∧ ws = chunk l k ∧ ∀ i, i < j → chk (x ^^^ 2 ^ i) ≠ y) ∨ (fl = true ∧ ∃ i, i < 64 ∧ ws = flipBit (chunk l k) i ∧ (List.range 64).find? (fun i => chk (x ^^^ 2 ^ i) == y) = some i))) (fun f t _ => 2 * (64 - (intOf t).toNat))
        case atStart => exact ⟨0, false, chunk l k, rfl, rfl, by omega, HCL, ho4, hbA, hide (.inl ⟨rfl, rfl, fun i hi => by omega⟩)⟩
        case round =>
          clear ho4 hr4 hown4 hcy4 hw4 hs4 hbA
          obtain ⟨j, fl, ws, rfl, rfl, hj, HWL, ho, hbq, HC⟩ := hrel
          have hr5 := Rd.of_own ho
          have hw5 := hb.trans (hbq.mono hbs)
          have hown5 : wr.ownsRow w.heap.size 5 1 u7 (8 * k) (u8v (r.take (8 * k))) := own_below hown hbq (by rw [HB1.out]; exact Nat.le_refl _)
          have hcy5 := (hbq.cell (p := ⟨bc, oc + k, none⟩) hbcl).trans hcy
          have hs5 := hbq.size
          cases fl with
          | false =>
            obtain ⟨hws, hno⟩ : ws = chunk l k ∧ ∀ i, i < j → chk (x ^^^ 2 ^ i) ≠ y := by
              rcases HC.out with ⟨-, h1, h2⟩ | ⟨h, -⟩
              · exact ⟨h1, h2⟩
              · cases h
            subst hws
            have HNO := hide hno
            clear hno HC
            by_cases hjl : j < 64
            · have hcell := get_cell ho (j / 8) (by omega) HWL.out
              have hfree := ho.frozenAt (j / 8)
              obtain ⟨z, hz⟩ : ∃ z, z = (chunk l k).getD (j / 8) 0 := ⟨_, rfl⟩
              rw [← hz] at hcell
              have hxb := xor_bit z j
              obtain ⟨zz, hzz⟩ : ∃ zz, zz = z ^^^ UInt8.ofNat (2 ^ (j % 8)) := ⟨_, rfl⟩
              rw [← hzz] at hxb
              have hst1 := (ho.stored (j / 8) (.int .u8 (zz.toNat : Int))).1
              have HFL : Hid ((u8v (chunk l k)).set (j / 8) (.int .u8 (zz.toNat : Int)) = u8v (flipBit (chunk l k) j)) := hide (by rw [flipBit_cells, hzz, hz])
              rw [HFL.out] at hst1
              have HFLEN : Hid (8 = (flipBit (chunk l k) j).length) := hide (by rw [flipBit_length]; exact HWL.out)
              have hbq1 : Below B1 wo (wr.setCell ⟨gw, j / 8, none⟩ (.int .u8 (zz.toNat : Int))) := hbq.setCell hgw1 _
              have hcy6 := (hbq1.cell (p := ⟨bc, oc + k, none⟩) hbcl).trans hcy
              have HLE : Hid (le (flipBit (chunk l k) j) = x ^^^ 2 ^ j) := hide (by rw [HX.out]; exact le_flip _ _ (by rw [← HWL.out]; omega))
              have xj1 : ((j : Int) / 8).toNat = j / 8 := by omega
              have xj2 : ((j : Int) % 8).toNat = j % 8 := by omega
              have hchl := chk_lt2 (x ^^^ 2 ^ j)
              have hfree6 := hst1.frozenAt (j / 8)
              have hxb2 := xor_bit zz j
              have HZB : Hid (zz ^^^ UInt8.ofNat (2 ^ (j % 8)) = z) := hide (by rw [hzz, UInt8.xor_assoc, UInt8.xor_self, UInt8.xor_zero])
              rw [HZB.out] at hxb2
              have hst2 := (hst1.stored (j / 8) (.int .u8 (z.toNat : Int))).1
              have HFL2 : Hid ((u8v (flipBit (chunk l k) j)).set (j / 8) (.int .u8 (z.toNat : Int)) = u8v (chunk l k)) := hide (by rw [← HFL.out, List.set_set, hz, u8_same _ _ (by rw [← HWL.out]; omega)])
              rw [HFL2.out] at hst2
              have hbq2 := hbq1.setCell (p := ⟨gw, j / 8, none⟩) hgw1 (.int .u8 (z.toNat : Int))
              have HS1 := hide hst1
              have HS2 := hide hst2
              clear hz hzz hst1 hst2
              go_wp2_with fail
              go_region
              go_wp2_with fail
              refine (checkOf_any _ (flipBit (chunk l k) j) 8 _ _ HFLEN.out HFLEN.out.symm (by exact (Rd.of_own HS1.out).drew)).mono ?_
              rintro e w8 ⟨rfl, rfl⟩
              rw [HLE.out]
              by_cases hxy2 : chk (x ^^^ 2 ^ j) = y
              · have he2 : (((chk (x ^^^ 2 ^ j) : Nat) : Int) == ((y : Nat) : Int)) = true := by rw [hxy2]; simp
                have HFD := hide (found_at hjl HNO.out hxy2)
                clear hxy2
                go_wp2_with fail
                go_roundw
                case rel => exact ⟨j + 1, true, _, by go_num, rfl, by omega, HFLEN, HS1.out.drew, hbq1.drew, hide (.inr ⟨rfl, j, hjl, rfl, HFD.out⟩)⟩
                case measure => simp [intOf]; omega
              · have he2 : (((chk (x ^^^ 2 ^ j) : Nat) : Int) == ((y : Nat) : Int)) = false := by simp; omega
                have HNO2 : Hid (∀ i, i < j + 1 → chk (x ^^^ 2 ^ i) ≠ y) := hide fun i hi => by
                  by_cases e : i = j
                  · subst e; exact hxy2
                  · exact HNO.out i (by omega)
                clear hxy2
                go_wp2_with fail
                go_region
                go_wp2_with fail
                go_roundw
                case rel => exact ⟨j + 1, false, _, by go_num, rfl, by omega, HWL, HS2.out.drew.drew, hbq2.drew.drew, hide (.inl ⟨rfl, rfl, HNO2.out⟩)⟩
                case measure => simp [intOf]; omega
            · obtain rfl : j = 64 := by omega
              have hnone := mendTo_none l cs (k + 1) (m - (k + 1)) (step_lost HT.out (HCX.out 100 (fix_nowhere hy256 HNE.out HPN.out (found_none HNO.out))))
              rw [show k + 1 + (m - (k + 1)) = m from by omega] at hnone
              have HNN := hide hnone
              clear hnone
              go_wp2_with fail
              go_ret3
              refine ⟨hw5, ?_⟩
              rw [HNN.out]
              rfl
          | true =>
            obtain ⟨i, hi, hws, hfd⟩ : ∃ i, i < 64 ∧ ws = flipBit (chunk l k) i ∧ (List.range 64).find? (fun i => chk (x ^^^ 2 ^ i) == y) = some i := by
              rcases HC.out with ⟨h, -⟩ | ⟨-, h⟩
              · cases h
              · exact h
            subst hws
            have HST := hide (step_flip i (by omega) HT.out (HCX.out _ (fix_found hy256 HNE.out HPN.out hfd)))
            have HNXT := hide (take_flip (k := k) (j := i) HDROP.out hi (by rw [HRL.out, ← HN.out]; omega))
            clear hfd HC
            go_wp2_with (first
              | (at_builtin
                 refine wpList_app _ rfl _ _ rfl w.heap.size _ (8 * k) (r.take (8 * k)) rfl hown5 (some ⟨gw, 0, none⟩) 8 c4 (flipBit (chunk l k) i) rfl HWL.out (by exact hr5) (by omega) (by omega) ?_
                 intro A6 c6 w6 hc6 ho6 hb6))
            all_goals
              go_roundw
              case rel => exact ⟨k + 1, q + 1, _, by go_num, by go_num, by omega, by omega, HST, own_next ho6 (by omega) HNXT.out, hw5.trans hb6⟩
              case measure => simp [intOf]; omega
    · obtain rfl : k = m := by omega
      go_wp2_with fail
      go_ret3
      refine ⟨hb, ?_⟩
      rw [HT.out]
      refine ⟨_, rfl, ?_⟩
      have hl := (mendTo_length l cs k r q HT.out).1
      rw [List.take_of_length_le (by rw [hl, ← HN.out]; exact Nat.le_refl _)] at hown
      exact hown
end Go.Proofs.YtakgbejeaheihaaDoor.RefW
