/- The walk of code.Protect. -/
import Derived.Test.YtlaipigilikmbaaMa1
import Derived.Test.YtlaipigilikmbaaMa12
import Derived.Test.YtlaipigilikmbaaMa13
import Derived.Deep.RegionHeld3
import Derived.Lib.Hide
set_option linter.unusedVariables false
namespace Go.Proofs.Ytlaipigilikmbaa.ProtectW
open Go.RowKit Pop PlacesW WordW

theorem mask_lt (j : Nat) : mk j 64 < 18446744073709551616 := by have := mk_lt j 64; omega

/-- The i-th word. -/
def wordAt (l : List UInt8) (i : Nat) : Nat := le ((l.drop (8 * i)).take 8)
theorem wordAt_lt (l : List UInt8) (i : Nat) : wordAt l i < 18446744073709551616 := by
  have h := le_lt ((l.drop (8 * i)).take 8)
  have h2 : ((l.drop (8 * i)).take 8).length ≤ 8 := by simp; omega
  have h3 : (256 : Nat) ^ ((l.drop (8 * i)).take 8).length ≤ 256 ^ 8 := Nat.pow_le_pow_right (by omega) h2
  unfold wordAt; omega

/-- The check byte of a word. -/
def chk (x : Nat) : Nat := chkBy (fun j => mk j 64) x
theorem chk_lt (x : Nat) : chk x < 256 := by
  have := par7_lt (fun j => mk j 64) x 7
  unfold chk chkBy; omega

/-- The first k check bytes. -/
def prot (l : List UInt8) (k : Nat) : List UInt8 := (List.range k).map fun i => UInt8.ofNat (chk (wordAt l i))
theorem prot_length (l : List UInt8) (k : Nat) : (prot l k).length = k := by simp [prot]
theorem prot_succ (l : List UInt8) (k : Nat) : prot l (k + 1) = prot l k ++ [UInt8.ofNat (chk (wordAt l k))] := by simp [prot, List.range_succ]
theorem u8v_prot_succ (l : List UInt8) (k : Nat) : u8v (prot l (k + 1)) = u8v (prot l k) ++ [.int .u8 (chk (wordAt l k) : Nat)] := by
  rw [prot_succ, u8v_append]
  congr 1
  have := chk_lt (wordAt l k)
  simp [u8v]
  omega

theorem word_at (A : Option Addr) (l : List UInt8) (i n cap : Nat) (w : World) (hn : n = (l.drop (8 * i)).length) (h8 : 8 ≤ n) (hr : Rd w A (u8v (l.drop (8 * i)))) :
    Calls Try.prog 23 #[.slice A n cap] w fun e w' => e = .returned (.int .u64 (wordAt l i)) ∧ w = w' :=
  word_any A (l.drop (8 * i)) n cap w hn (by omega) hr

theorem check_at (x : Nat) (hx : x < 18446744073709551616) (w : World) :
    Calls Try.prog 22 #[.int .u64 x, .agg #[.int .u64 (mk 0 64), .int .u64 (mk 1 64), .int .u64 (mk 2 64), .int .u64 (mk 3 64), .int .u64 (mk 4 64), .int .u64 (mk 5 64), .int .u64 (mk 6 64)]] w fun e w' =>
      e = .returned (.int .u8 (chk x)) ∧ Below w.heap.size w w' :=
  check_any (fun j => mk j 64) x hx mask_lt w

theorem chk_def (x : Nat) : chkBy (fun j => mk j 64) x = chk x := rfl
theorem wordAt_def (l : List UInt8) (i : Nat) : le ((l.drop (8 * i)).take 8) = wordAt l i := rfl

theorem cells7 {w : World} {g : Nat} {t : TypeId} {a0 a1 a2 a3 a4 a5 a6 : Value} (h : Bk w g t #[a0, a1, a2, a3, a4, a5, a6]) :
    w.cell? ⟨g, 0, none⟩ = some a0 ∧ w.cell? ⟨g, 1, none⟩ = some a1 ∧ w.cell? ⟨g, 2, none⟩ = some a2 ∧ w.cell? ⟨g, 3, none⟩ = some a3 ∧ w.cell? ⟨g, 4, none⟩ = some a4 ∧ w.cell? ⟨g, 5, none⟩ = some a5 ∧ w.cell? ⟨g, 6, none⟩ = some a6 :=
  ⟨h.at_ rfl, h.at_ rfl, h.at_ rfl, h.at_ rfl, h.at_ rfl, h.at_ rfl, h.at_ rfl⟩

attribute [local irreducible] chk wordAt prot mk popc chkBy le

set_option maxRecDepth 20000 in
theorem protect_ok (A : Option Addr) (l : List UInt8) (n cap : Nat) (w : World) (hn : n = l.length) (h8 : n % 8 = 0) (hmax : n ≤ 4096) (hcap : n ≤ cap) (hr : Rd w A (u8v l)) :
    Calls Try.prog 9 #[.slice A n cap] w fun e w' => ∃ v, e = .returned (.tuple #[v, .nilIface]) ∧ w'.ownsRow w.heap.size 5 1 v (n / 8) (u8v (prot l (n / 8))) ∧ Below w.heap.size w w' := by
  obtain ⟨i0, hi0, hz0, hz1, hz2⟩ := info_parts u8_info
  have HN := hide hn
  have H8 := hide h8
  clear hn h8
  go_enter Try.func9, Try.ntmps9
  go_wp2_with (first | (go_at_call 20; refine (fits_ok A n cap _ H8.out hmax).mono ?_; rintro e w' ⟨rfl, rfl⟩) | (go_at_call 21; refine (places_any _).mono ?_; rintro e w1 ⟨rfl, hb1⟩))
  have hB : Bk (w1.alloc (.cells #[.int .u64 (mk 0 64), .int .u64 (mk 1 64), .int .u64 (mk 2 64), .int .u64 (mk 3 64), .int .u64 (mk 4 64), .int .u64 (mk 5 64), .int .u64 (mk 6 64)] 58)) w1.heap.size 58 #[.int .u64 (mk 0 64), .int .u64 (mk 1 64), .int .u64 (mk 2 64), .int .u64 (mk 3 64), .int .u64 (mk 4 64), .int .u64 (mk 5 64), .int .u64 (mk 6 64)] := Bk.new _ _ _
  have hb2 : Below w.heap.size w (w1.alloc (.cells #[.int .u64 (mk 0 64), .int .u64 (mk 1 64), .int .u64 (mk 2 64), .int .u64 (mk 3 64), .int .u64 (mk 4 64), .int .u64 (mk 5 64), .int .u64 (mk 6 64)] 58)) := hb1.alloc hb1.size _
  have hge : w.heap.size ≤ w1.heap.size := hb1.size
  generalize w1.alloc (.cells #[.int .u64 (mk 0 64), .int .u64 (mk 1 64), .int .u64 (mk 2 64), .int .u64 (mk 3 64), .int .u64 (mk 4 64), .int .u64 (mk 5 64), .int .u64 (mk 6 64)] 58) = w2 at hB hb2 ⊢
  generalize w1.heap.size = g at hB hge ⊢
  clear hb1
  go_loopw [6, 7] (fun v i wr => ∃ k : Nat, 8 * k ≤ n ∧ i = .int .i64 (8 * (k : Int)) ∧ wr.ownsRow w.heap.size 5 1 v k (u8v (prot l k)) ∧ Bk wr g 58 #[.int .u64 (mk 0 64), .int .u64 (mk 1 64), .int .u64 (mk 2 64), .int .u64 (mk 3 64), .int .u64 (mk 4 64), .int .u64 (mk 5 64), .int .u64 (mk 6 64)] ∧ Below w.heap.size w wr) (fun _ i _ => n - (intOf i).toNat)
  case atStart => exact ⟨0, by omega, rfl, by simpa [prot, u8v] using World.ownsRow_nil _ _ _ _, hB, hb2⟩
  case round =>
    clear hB hb2
    obtain ⟨k, hk, rfl, hown, hB, hb⟩ := hrel
    by_cases hlt : 8 * k < n
    · obtain ⟨b, off, rfl, -, -⟩ := hr.form (by rw [u8v_length, ← HN.out]; omega)
      have hne : ¬ cap = 8 * k := by omega
      have hrd := (hr.below hb).drop (8 * k) cap (by rw [u8v_length, ← HN.out]; exact hcap)
      rw [if_neg hne] at hrd
      have hrd' : Rd wr (some ⟨b, off + 8 * k, none⟩) (u8v (l.drop (8 * k))) := by simpa [u8v, Addr.add_lit] using hrd
      clear hrd
      have HDL := hide (show n - 8 * k = (l.drop (8 * k)).length by rw [List.length_drop, ← HN.out])
      have h8k : 8 ≤ n - 8 * k := by have := H8.out; omega
      have hwl := wordAt_lt l k
      have HS := hide (u8v_prot_succ l k)
      obtain ⟨c0, c1, c2, c3, c4, c5, c6⟩ := cells7 hB
      generalize u8v (prot l k) = xs at hown HS
      have hwat := fun A n cap w hn h8 hr => word_at A l k n cap w hn h8 hr
      have Hwat := Lib.hid hwat
      clear hwat
      generalize wordAt l k = x at hwl HS Hwat
      go_wp2
      have hA1 : (0 : Int) ≤ 8 * (k : Int) := by omega
      have hA2 : 8 * (k : Int) ≤ (n : Int) := by omega
      have hA3 : (8 * (k : Int)).toNat = 8 * k := by omega
      go_region_held3 (fun w' => w'.cell? ⟨g, 0, none⟩ = some (.int .u64 (mk 0 64 : Nat)) ∧ w'.cell? ⟨g, 1, none⟩ = some (.int .u64 (mk 1 64 : Nat)) ∧ w'.cell? ⟨g, 2, none⟩ = some (.int .u64 (mk 2 64 : Nat)) ∧ w'.cell? ⟨g, 3, none⟩ = some (.int .u64 (mk 3 64 : Nat)) ∧
          w'.cell? ⟨g, 4, none⟩ = some (.int .u64 (mk 4 64 : Nat)) ∧ w'.cell? ⟨g, 5, none⟩ = some (.int .u64 (mk 5 64 : Nat)) ∧ w'.cell? ⟨g, 6, none⟩ = some (.int .u64 (mk 6 64 : Nat)))
        (first | exact cells7 hB | exact cells7 hB3 | exact cells7 (hB3.alloc _) | exact cells7 hB4)
        (first
          | (go_at_call 23; refine (Hwat.out _ _ _ _ HDL.out h8k (by exact hrd')).mono ?_; rintro e w' ⟨rfl, rfl⟩)
          | (go_at_call 22; refine (check_at _ hwl _).mono ?_; rintro e w3 ⟨rfl, hb3⟩; have hB3 := Bk.below (Bk.drew hB) hb3 hB.lt; have hw3 := hb.drew.trans (Below.mono hb3 hb.size); have hown3 := own_below (World.ownsRow.drew hown) hb3 (Nat.le_refl _))
          | (have hownA := hown3.alloc (.cells #[.int .u8 (chk x : Nat)] 5); have hBA := hB3.alloc (.cells #[.int .u8 (chk x : Nat)] 5); have hwA := hw3.alloc hw3.size (.cells #[.int .u8 (chk x : Nat)] 5)
             refine step_append_rd _ rfl (.tmp 20) (.tmp 27) 22 rfl w.heap.size 5 i0 _ 1 Try.underlying22 hi0 hz0 hz1 hz2 rfl _ k xs rfl hownA _ 1 1 [.int .u8 (chk x : Nat)] rfl rfl (Rd.one _ _ _) ?_ ?_ ?_ ?_ ?_
             · intro u hu; simp at hu; subst hu; rfl
             · simp only [maxLen]; omega
             · omega
             · exact hwA.size
             intro v' w4 hown4 hg4
             have hg4' : (w3.alloc (.cells #[.int .u8 (chk x : Nat)] 5)).grownBy w4 u6.ownBlock := hg4
             have hB4 := Bk.grown hBA hg4' (own_bk_ne hownA hBA (by decide))
             have hw4 := below_own hwA hownA hg4' hwA.size (Nat.le_refl _)
             clear hg4))
      go_wp2
      go_roundw
      case rel =>
        exact ⟨k + 1, by omega, by go_num, by rw [HS.out]; exact hown4, hB4, hw4⟩
      case measure => simp [intOf]; omega
    · go_wp2
      go_ret2
      obtain rfl : k = n / 8 := by have := H8.out; omega
      exact ⟨_, rfl, hown, hb⟩


theorem protect_shape (A : Option Addr) (n cap : Nat) (w : World) (h : n % 8 ≠ 0) :
    Calls Try.prog 9 #[.slice A n cap] w fun e w' => e = .returned (.tuple #[.slice none 0 0, .iface 52 (.int .i64 2)]) ∧ w = w' := by
  have H := hide h
  clear h
  go_enter Try.func9, Try.ntmps9
  go_wp2_with (go_at_call 20; refine (fits_shape A n cap _ H.out).mono ?_; rintro e w' ⟨rfl, rfl⟩)
  go_ret2
  exact ⟨rfl, rfl⟩

theorem protect_full (A : Option Addr) (n cap : Nat) (w : World) (h : n % 8 = 0) (h2 : 4096 < n) :
    Calls Try.prog 9 #[.slice A n cap] w fun e w' => e = .returned (.tuple #[.slice none 0 0, .iface 52 (.int .i64 3)]) ∧ w = w' := by
  have H := hide h
  clear h
  go_enter Try.func9, Try.ntmps9
  go_wp2_with (go_at_call 20; refine (fits_full A n cap _ H.out h2).mono ?_; rintro e w' ⟨rfl, rfl⟩)
  go_ret2
  exact ⟨rfl, rfl⟩

/-- What cannot be protected: an error, whichever. -/
theorem protect_bad (A : Option Addr) (n cap : Nat) (w : World) (h : ¬ (n % 8 = 0 ∧ n ≤ 4096)) :
    Calls Try.prog 9 #[.slice A n cap] w fun e w' => ∃ k : Int, e = .returned (.tuple #[.slice none 0 0, .iface 52 (.int .i64 k)]) ∧ w = w' := by
  by_cases h8 : n % 8 = 0
  · exact (protect_full A n cap w h8 (by omega)).mono fun e w' ⟨a, b⟩ => ⟨3, a, b⟩
  · exact (protect_shape A n cap w h8).mono fun e w' ⟨a, b⟩ => ⟨2, a, b⟩

end Go.Proofs.Ytlaipigilikmbaa.ProtectW
