/- The walk of pool.New. -/
import Derived.Test.YthaoiilghphbiaaDoorPoolW
import Derived.Deep.DeepCutAuto
set_option linter.unusedVariables false
namespace Go.Proofs.YthaoiilghphbiaaDoor.PoolW
open Go.RowKit HeapP HeapW I64

/-- The list of a new pool. -/
def zeros (k : Nat) : List (Int × Int) := (List.range k).map fun b : Nat => ((0 : Int), (b : Int))
theorem zeros_zero : flat (zeros 0) = [] := rfl
theorem zeros_succ (k : Nat) : zeros (k + 1) = zeros k ++ [((0 : Int), (k : Int))] := by simp [zeros, List.range_succ]
theorem zeros_length (k : Nat) : (zeros k).length = k := by simp [zeros]
theorem free_new (n : Nat) (l : List (Int × Int)) (h : l.Perm (zeros n)) : Free n (List.replicate n 0) (List.replicate n 0) l := by
  refine ⟨?_, fun e => ?_⟩
  · rw [h.nodup_iff]
    unfold zeros
    rw [List.nodup_iff_pairwise_ne, List.pairwise_map]
    refine List.Pairwise.imp ?_ (List.nodup_iff_pairwise_ne.1 List.nodup_range)
    intro a b hab e
    injection e with _ e
    exact hab (by omega)
  · rw [h.mem_iff]
    unfold zeros
    rw [List.mem_map]
    constructor
    · rintro ⟨b, hb, rfl⟩
      exact ⟨b, List.mem_range.1 hb, getD_rep _ _ _ (List.mem_range.1 hb), by rw [getD_rep _ _ _ (List.mem_range.1 hb)]⟩
    · rintro ⟨b, hb, _, rfl⟩
      exact ⟨b, List.mem_range.2 hb, by rw [getD_rep _ _ _ hb]⟩

theorem wpList_append_two (w : World) {ops : Array Oper} {rest : List Oper} {o : Oper} {a : Act} {Q : Exit → Act → World → Prop} (hgd : o.guard = none) (s x : Operand)
    (ho : o.op = .call { callee := .builtin .append, args := #[s, x], argTypes := #[73, 73] })
    (base : Nat) (v : Value) (n : Nat) (l : List (Int × Int)) (hs : a.eval s = v) (hown : w.ownsRow base 77 2 v n (flat l)) (hn : l.length = n) (hn2 : n ≤ 4096)
    (ad : Addr) (y1 y2 : Int) (hx : a.eval x = .slice (some ad) 1 1) (hc : ∀ j u, [Value.int .i64 y1, .int .i64 y2][j]? = some u → w.cell? (ad.add j) = some u) (hbase : base ≤ w.heap.size)
    (h : ∀ ge cap w', w'.ownsRow base 77 2 (.slice (some ⟨ge, 0, none⟩) (n + 1) cap) (n + 1) (flat (l ++ [(y1, y2)])) → w.grownBy w' v.ownBlock → wpList Tryd.prog ops Q rest (a.put o.dst (.slice (some ⟨ge, 0, none⟩) (n + 1) cap)) w') : wpList Tryd.prog ops Q (o :: rest) a w := by
  refine wpList_plain hgd fun K hK => ?_
  obtain ⟨i0, hi0, hz0, hz1, hz2⟩ := info_parts entry_info
  obtain ⟨v', w', hrun, h2, h3, -, -⟩ := run_append_own_at (P := Tryd.prog) w base 73 o.type 77 i0 _ 2 16 Tryd.underlying73 hi0 hz0 hz1 hz2 rfl (by omega) v n (flat l) hown ad 1 1 [.int .i64 y1, .int .i64 y2] rfl hc (by intro u hu; simp at hu; rcases hu with rfl | rfl <;> rfl) (by simp only [maxLen]; omega) (by omega) hbase
  rw [flat_snoc] at h2
  obtain ⟨ge, cap, rfl, -, -, -⟩ := own_EB h2 (by simp; omega) (by omega)
  unfold Oper.wp execOp
  simp only [ho, resolve, invoke, builtin, Sem.run_bind, Sem.run_pure, Result.andThen_ok, List.map_toArray, List.map_cons, List.map_nil, hs, hx, hrun]
  exact hK _ _ (h ge cap w' h2 h3)

theorem madeV (n : Nat) : ∃ M, M = madeCells #[.int .i64 0] n ∧ M = (i64v (List.replicate n 0)).toArray := ⟨_, rfl, made_i64 n⟩

theorem new_range (x0 x1 : Int) (w : World) (h : x0 < 1 ∨ 64 < x0 ∨ x1 < 0 ∨ x0 < x1) :
    Calls Tryd.prog 19 #[.int .i64 x0, .int .i64 x1] w fun e w' => e = .returned (.tuple #[.pointer none, errV 1]) ∧ w = w' := by
  by_cases h1 : x0 < 1
  · go_enter Tryd.func19, Tryd.ntmps19
    go_wp2
    go_ret2
    exact ⟨rfl, rfl⟩
  by_cases h2 : 64 < x0
  · go_enter Tryd.func19, Tryd.ntmps19
    go_wp2
    go_ret2
    exact ⟨rfl, rfl⟩
  by_cases h3 : x1 < 0
  · go_enter Tryd.func19, Tryd.ntmps19
    go_wp2
    go_ret2
    exact ⟨rfl, rfl⟩
  have h4 : x0 < x1 := by omega
  go_enter Tryd.func19, Tryd.ntmps19
  go_wp2
  go_ret2
  exact ⟨rfl, rfl⟩

theorem eb_form {w : World} {ge cap : Nat} {l : List (Int × Int)} (h : EB w ge cap l) : ∃ cur, w.heap[ge]? = some (.cells cur 77 (0, 0)) ∧ True := by
  obtain ⟨cur, h1, -⟩ := h
  exact ⟨cur, h1, trivial⟩

attribute [local irreducible] swp el lt EB Hp flat zeros

/-- What the struct's making leaves. -/
def Made (w : World) (n : Nat) (sp : Int) (v : Value) (wx : World) : Prop := ∃ g ga gb, v = .pointer (some ⟨g, 0, none⟩) ∧ Bk wx g 75 #[.int .i64 sp, .slice (some ⟨ga, 0, none⟩) n n, .slice (some ⟨gb, 0, none⟩) n n, .slice none 0 0] ∧
  Bk wx ga 3 (i64v (List.replicate n 0)).toArray ∧ Bk wx gb 3 (i64v (List.replicate n 0)).toArray ∧ ga ≠ gb ∧ w.heap.size ≤ g ∧ w.heap.size ≤ ga ∧ w.heap.size ≤ gb ∧ Below w.heap.size w wx

theorem c0 (w : World) (t : TypeId) (cs : Array Value) (o1 o2 : Obj) : Bk (((w.alloc (.cells cs t)).alloc o1).alloc o2) w.heap.size t cs := ((Bk.new w t cs).alloc o1).alloc o2
theorem c1 (w : World) (t : TypeId) (cs : Array Value) (o0 o2 : Obj) : Bk (((w.alloc o0).alloc (.cells cs t)).alloc o2) (w.heap.size + 1) t cs := by
  have := (Bk.new (w.alloc o0) t cs).alloc o2
  simpa using this
theorem c2 (w : World) (t : TypeId) (cs : Array Value) (o0 o1 : Obj) : Bk (((w.alloc o0).alloc o1).alloc (.cells cs t)) (w.heap.size + 2) t cs := by
  have := Bk.new ((w.alloc o0).alloc o1) t cs
  simpa using this
theorem in_of (B : Nat) (P : Nat → Prop) (x : Nat) (h : B ≤ x) (hD : ∀ y, P y → y < B) : In B P x := ⟨h, fun h2 => by have := hD x h2; omega⟩

set_option maxRecDepth 100000 in
set_option maxHeartbeats 4000000 in
theorem new_ok (n : Nat) (sp : Int) (hn : 0 < n) (hn2 : n ≤ 64) (hs : 0 ≤ sp) (hs2 : sp ≤ n) (P : Nat → Prop) (w : World) (hD : ∀ y, P y → y < w.heap.size) :
    Calls Tryd.prog 19 #[.int .i64 n, .int .i64 sp] w fun e w' => ∃ g, e = .returned (.tuple #[.pointer (some ⟨g, 0, none⟩), .nilIface]) ∧ PoolAt w' w.heap.size P g n sp (List.replicate n 0) (List.replicate n 0) ∧ Below w.heap.size w w' := by
  obtain ⟨M, hM, hM2⟩ := madeV n
  have hmk := fun w => run_make_row' (P := Tryd.prog) 31 3 (.int .i64 0) 8 Tryd.underlying31 int_info rfl .i64 .i64 n (by omega) (by omega) w
  rw [← hM] at hmk
  have HM2 := hide hM2
  clear hM hM2
  go_enter Tryd.func19, Tryd.ntmps19
  go_wp2_with fail
  go_cut [6] (fun v wx => Made w n sp v wx)
  case first =>
    go_region
    all_goals
      go_wp2_with fail
      go_meet
      have hbel := ((((Below.refl w.heap.size w).alloc (Nat.le_refl _) (.cells M 3)).alloc (by simp) (.cells M 3)).alloc (by simp; omega) (.cells #[.int .i64 sp, .slice (some ⟨w.heap.size, 0, none⟩) n n, .slice (some ⟨w.heap.size + 1, 0, none⟩) n n, .slice none 0 0] 75)).drew
      have hbel2 := ((((Below.refl w.heap.size w).alloc (Nat.le_refl _) (.cells M 3)).alloc (by simp) (.cells M 3)).alloc (by simp; omega) (.cells #[.int .i64 sp, .slice (some ⟨w.heap.size + 1, 0, none⟩) n n, .slice (some ⟨w.heap.size, 0, none⟩) n n, .slice none 0 0] 75)).drew
      first
        | exact ⟨_, w.heap.size, w.heap.size + 1, rfl, (c2 w _ _ _ _).drew, by rw [← HM2.out]; exact (c0 w _ _ _ _).drew, by rw [← HM2.out]; exact (c1 w _ _ _ _).drew, by omega, by omega, by omega, by omega, hbel⟩
        | exact ⟨_, w.heap.size + 1, w.heap.size, rfl, (c2 w _ _ _ _).drew, by rw [← HM2.out]; exact (c1 w _ _ _ _).drew, by rw [← HM2.out]; exact (c0 w _ _ _ _).drew, by omega, by omega, by omega, by omega, hbel2⟩
  case rest =>
    obtain ⟨g, ga, gb, rfl, hg, ha, hb, hne, lg, la, lb, hbel⟩ := hcut
    have gsz := hg.lt
    have asz := ha.lt
    have bsz := hb.lt
    have hnga := bk_ne hg ha (by decide)
    have hngb := bk_ne hg hb (by decide)
    go_wp2_with fail
    go_loopw [32] (fun i wr => ∃ (k : Nat) (v : Value), i = .int .i64 k ∧ k ≤ n ∧ Bk wr g 75 #[.int .i64 sp, .slice (some ⟨ga, 0, none⟩) n n, .slice (some ⟨gb, 0, none⟩) n n, v] ∧ Bk wr ga 3 (i64v (List.replicate n 0)).toArray ∧ Bk wr gb 3 (i64v (List.replicate n 0)).toArray ∧
      wr.ownsRow w.heap.size 77 2 v k (flat (zeros k)) ∧ Below w.heap.size w wr) (fun i _ => n - (intOf i).toNat)
    case atStart => exact ⟨0, _, rfl, by omega, hg, ha, hb, by have := World.ownsRow_nil wc w.heap.size 77 2; rwa [← zeros_zero] at this, hbel⟩
    case round =>
      clear hg ha hb hbel gsz asz bsz
      obtain ⟨k, v, rfl, hk, hg, ha, hb, hown, hbel⟩ := hrel
      by_cases hlt : k < n
      · have hsh : ∃ A c, v = .slice A k c := by
          rcases hown.2 with ⟨h1, h2⟩ | ⟨q, cap, cur, h1, _⟩
          · exact ⟨none, 0, by rw [h1, h2]⟩
          · exact ⟨_, _, h1⟩
        obtain ⟨A, c, rfl⟩ := hsh
        have q3 := hg.at_ (i := 3) (u := .slice A k c) rfl
        have f3 := hg.free 3
        have hsz : w.heap.size ≤ wr.heap.size := hbel.size
        have HZ := hide (zeros_succ k)
        have HZL := hide (zeros_length k)
        have o1 := Ne.symm (own_bk_ne hown hg (by decide))
        have o2 := Ne.symm (own_bk_ne hown ha (by decide))
        have o3 := Ne.symm (own_bk_ne hown hb (by decide))
        generalize zeros k = l at hown HZ HZL
        go_wp2_with (first
          | (at_builtin
             refine wpList_append_two _ rfl (.tmp 39) (.tmp 42) rfl w.heap.size _ k l rfl (by exact hown.alloc _) HZL.out (by omega) ⟨wr.heap.size, 0, none⟩ 0 k rfl ?_ (by simp; omega) ?_
             · intro j u hu
               rw [Addr.add_lit, Nat.zero_add]
               exact (Bk.new wr 77 #[.int .i64 0, .int .i64 k]).at_ (by simpa using hu)
             intro ge cap w5 hown5 hg5
             have hA : Below wr.heap.size wr (wr.alloc (.cells #[.int .i64 0, .int .i64 k] 77)) := (Below.refl _ _).alloc (Nat.le_refl _) _
             have hg6 := (hg.below hA hg.lt).grown hg5 (Ne.symm o1)
             have ha6 := (ha.below hA ha.lt).grown hg5 (Ne.symm o2)
             have hb6 := (hb.below hA hb.lt).grown hg5 (Ne.symm o3)
             have hbel6 := below_own (hbel.trans (hA.mono hsz)) (hown.alloc _) hg5 (by simp; omega) (Nat.le_refl _)
             have q5 := hg6.at_ (i := 3) (u := .slice A k c) rfl
             have f5 := hg6.free 3))
        go_roundw
        case rel =>
          refine ⟨k + 1, _, by go_num, by omega, hg6.put 3 _, ha6.far (Ne.symm hnga) _, hb6.far (Ne.symm hngb) _, ?_, hbel6.setCell lg _⟩
          rw [HZ.out]
          exact ownsRow_setCell_other hown5 (Ne.symm (own_bk_ne hown5 hg6 (by decide))) _
        case measure => simp [intOf]; omega
      · obtain rfl : k = n := by omega
        obtain ⟨ge, cap, rfl, lge, heb, hcm⟩ := own_EB hown (zeros_length k) hn
        have hpl : PL wr g ge cap (.int .i64 sp) (.slice (some ⟨ga, 0, none⟩) k k) (.slice (some ⟨gb, 0, none⟩) k k) (zeros k) := ⟨by rw [zeros_length]; exact hg, heb, hcm⟩
        have HPL := hide hpl
        have hsz := hbel.size
        clear hlt hown heb hpl
        go_wp2_with fail
        refine (init_any g ge cap (zeros k) _ HPL.out.lb (by rw [zeros_length]; omega)).mono ?_
        rintro e w6 ⟨l', rfl, hm6, hp6⟩
        have HM6 := hide hm6
        have HP6 := hide hp6
        have hb6 := hbel.trans ((Chg.of_grown hm6.2.2.2.2 g).below lg lge hsz)
        clear hm6 hp6
        go_wp2_with fail
        go_ret2
        refine ⟨g, rfl, ⟨ga, gb, ge, cap, l', ?_⟩, hb6⟩
        have hgr := HM6.out.2.2.2.2
        have hea := HPL.out.2.1
        have nea : ga ≠ ge := by
          obtain ⟨cur, h1, -⟩ := eb_form hea
          exact bk_ne2 ha h1 (by decide)
        have neb : gb ≠ ge := by
          obtain ⟨cur, h1, -⟩ := eb_form hea
          exact bk_ne2 hb h1 (by decide)
        exact { pl := HPL.out.moved HM6.out, bs := ha.grown hgr (fun e => nea (by injection e)), bw := hb.grown hgr (fun e => neb (by injection e)), ls := by simp, lw := by simp, ne := hne,
                ig := in_of _ _ _ lg hD, ia := in_of _ _ _ la hD, ib := in_of _ _ _ lb hD, ie := in_of _ _ _ lge hD, heap := HP6.out, free := free_new k l' HM6.out.2.1, pos := hn, most := hn2, vals := fun b hb => .inl (getD_rep _ _ _ hb) }
end Go.Proofs.YthaoiilghphbiaaDoor.PoolW
