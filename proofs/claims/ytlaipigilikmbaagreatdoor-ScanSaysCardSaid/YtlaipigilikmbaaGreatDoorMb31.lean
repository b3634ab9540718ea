/- Texts of this seat,put together: ErN,NewP,RefW. -/
import Derived.Test.YtlaipigilikmbaaGreatDoorMb29
import Derived.Test.YtlaipigilikmbaaGreatDoorMb13
import Derived.Test.YtlaipigilikmbaaGreatDoorMb12
set_option linter.unusedVariables false
set_option linter.unusedSimpArgs false
namespace Go.Proofs.YtlaipigilikmbaaGreatDoor.Ph
open Go Go.Conc Go.Proofs.YtlaipigilikmbaaGreatDoor.Co Go.Proofs.YtlaipigilikmbaaGreatDoor.Cl Go.Proofs
def rangeV:Value:=.tuple #[.slice none 0 0,.iface 38 (.int .i64 1)]
section
variable (A:Option Addr) (L cp:Nat) (z:Int) (c:Frame) (cs:List Frame)
noncomputable def ni0:Goroutine:=G (Frame.enter Tryz.prog 14 #[.slice A L cp,.int .i64 z] .normal) (c :: cs)
noncomputable def niA:Goroutine:=fin (it Tryz.prog 19 (ni0 A L cp z c cs)) (.bool false)
noncomputable def niT:Goroutine:=fin (it Tryz.prog 19 (ni0 A L cp z c cs)) (.bool true)
noncomputable def niU:Goroutine:=fin (it Tryz.prog 2 (niA A L cp z c cs)) (.bool true)
theorem ni0_calm:Calms Tryz.prog true 20 (ni0 A L cp z c cs):=by
  iterate 20 refine ⟨by kernel_rfl,fun _=>by kernel_rfl, ?_⟩
  trivial
theorem ni0_it:it Tryz.prog 20 (ni0 A L cp z c cs) = fin (it Tryz.prog 19 (ni0 A L cp z c cs)) (.bool (decide (z < 1))):=by kernel_rfl
theorem niT_calm:Calms Tryz.prog true 29 (niT A L cp z c cs):=by
  iterate 29 refine ⟨by kernel_rfl,fun _=>by kernel_rfl, ?_⟩
  trivial
theorem niT_it:it Tryz.prog 29 (niT A L cp z c cs) = G (c.finish rangeV) cs:=by kernel_rfl
theorem niA_calm:Calms Tryz.prog true 3 (niA A L cp z c cs):=by
  iterate 3 refine ⟨by kernel_rfl,fun _=>by kernel_rfl, ?_⟩
  trivial
theorem niA_it:it Tryz.prog 3 (niA A L cp z c cs) = fin (it Tryz.prog 2 (niA A L cp z c cs)) (.bool (decide ((8:Int) < z))):=by kernel_rfl
theorem niU_calm:Calms Tryz.prog true 26 (niU A L cp z c cs):=by
  iterate 26 refine ⟨by kernel_rfl,fun _=>by kernel_rfl, ?_⟩
  trivial
theorem niU_it:it Tryz.prog 26 (niU A L cp z c cs) = G (c.finish rangeV) cs:=by kernel_rfl
noncomputable def si0:Goroutine:=G (Frame.enter Tryz.prog 15 #[.slice A L cp,.int .i64 z] .normal) (c :: cs)
noncomputable def siA:Goroutine:=fin (it Tryz.prog 19 (si0 A L cp z c cs)) (.bool false)
noncomputable def siT:Goroutine:=fin (it Tryz.prog 19 (si0 A L cp z c cs)) (.bool true)
noncomputable def siU:Goroutine:=fin (it Tryz.prog 2 (siA A L cp z c cs)) (.bool true)
theorem si0_calm:Calms Tryz.prog true 20 (si0 A L cp z c cs):=by
  iterate 20 refine ⟨by kernel_rfl,fun _=>by kernel_rfl, ?_⟩
  trivial
theorem si0_it:it Tryz.prog 20 (si0 A L cp z c cs) = fin (it Tryz.prog 19 (si0 A L cp z c cs)) (.bool (decide (z < 1))):=by kernel_rfl
theorem siT_calm:Calms Tryz.prog true 29 (siT A L cp z c cs):=by
  iterate 29 refine ⟨by kernel_rfl,fun _=>by kernel_rfl, ?_⟩
  trivial
theorem siT_it:it Tryz.prog 29 (siT A L cp z c cs) = G (c.finish rangeV) cs:=by kernel_rfl
theorem siA_calm:Calms Tryz.prog true 3 (siA A L cp z c cs):=by
  iterate 3 refine ⟨by kernel_rfl,fun _=>by kernel_rfl, ?_⟩
  trivial
theorem siA_it:it Tryz.prog 3 (siA A L cp z c cs) = fin (it Tryz.prog 2 (siA A L cp z c cs)) (.bool (decide ((8:Int) < z))):=by kernel_rfl
theorem siU_calm:Calms Tryz.prog true 26 (siU A L cp z c cs):=by
  iterate 26 refine ⟨by kernel_rfl,fun _=>by kernel_rfl, ?_⟩
  trivial
theorem siU_it:it Tryz.prog 26 (siU A L cp z c cs) = G (c.finish rangeV) cs:=by kernel_rfl
end
section
variable {Q:Value→World→Prop} {Z:Bl} {w:World} {A:Option Addr} {L cp:Nat} {z:Int} {c:Frame} {cs:List Frame}
theorem newest_range (h:z < 1 ∨ 8 < z) (hk:Wins Tryz.prog Q Z (G (c.finish rangeV) cs) w):Wins Tryz.prog Q Z (ni0 A L cp z c cs) w:=by
  refine wins_calms 20 (ni0_calm A L cp z c cs) ?_
  rw [ni0_it]
  by_cases h1:z < 1
  · rw [decide_eq_true h1]
    refine wins_calms 29 (niT_calm A L cp z c cs) ?_
    show Wins Tryz.prog Q Z (it Tryz.prog 29 (niT A L cp z c cs)) w
    rw [niT_it]
    exact hk
  · rw [decide_eq_false h1]
    refine wins_calms 3 (niA_calm A L cp z c cs) ?_
    show Wins Tryz.prog Q Z (it Tryz.prog 3 (niA A L cp z c cs)) w
    rw [niA_it,decide_eq_true (h.resolve_left h1)]
    refine wins_calms 26 (niU_calm A L cp z c cs) ?_
    show Wins Tryz.prog Q Z (it Tryz.prog 26 (niU A L cp z c cs)) w
    rw [niU_it]
    exact hk
theorem states_range (h:z < 1 ∨ 8 < z) (hk:Wins Tryz.prog Q Z (G (c.finish rangeV) cs) w):Wins Tryz.prog Q Z (si0 A L cp z c cs) w:=by
  refine wins_calms 20 (si0_calm A L cp z c cs) ?_
  rw [si0_it]
  by_cases h1:z < 1
  · rw [decide_eq_true h1]
    refine wins_calms 29 (siT_calm A L cp z c cs) ?_
    show Wins Tryz.prog Q Z (it Tryz.prog 29 (siT A L cp z c cs)) w
    rw [siT_it]
    exact hk
  · rw [decide_eq_false h1]
    refine wins_calms 3 (siA_calm A L cp z c cs) ?_
    show Wins Tryz.prog Q Z (it Tryz.prog 3 (siA A L cp z c cs)) w
    rw [siA_it,decide_eq_true (h.resolve_left h1)]
    refine wins_calms 26 (siU_calm A L cp z c cs) ?_
    show Wins Tryz.prog Q Z (it Tryz.prog 26 (siU A L cp z c cs)) w
    rw [siU_it]
    exact hk
end
end Go.Proofs.YtlaipigilikmbaaGreatDoor.Ph

namespace Go.Proofs.YtlaipigilikmbaaGreatDoor.RefS
open Go Go.Proofs.YtlaipigilikmbaaGreatDoor.Ph Go.Proofs.YtlaipigilikmbaaGreatDoor.OpenW
def posF (x:Fnd):List Fnd→Nat
  | []=>0
  | y :: l=>if y.lba < x.lba then posF x l + 1 else 0
theorem posF_eq (x:Fnd):∀ (l:List Fnd) (k:Nat),k ≤ l.length→(∀ j,j < k→(l.getD j zFnd).lba < x.lba)→(k < l.length→¬ (l.getD k zFnd).lba < x.lba)→posF x l = k
  | [],k,hk,_,_=>by simp at hk; unfold posF; omega
  | y :: l,k,hk,h1,h2=>by
    unfold posF
    cases k with
    | zero =>
      have:=h2 (by simp)
      rw [if_neg (by simpa using this)]
    | succ k =>
      have h0:=h1 0 (by omega)
      rw [if_pos (by simpa using h0),posF_eq x l k (by simpa using hk) (fun j hj=>by have:=h1 (j + 1) (by omega); simpa using this) fun hl=>by have:=h2 (by simp; omega); simpa using this]
def insF (x:Fnd) (l:List Fnd):List Fnd :=
  let k:=posF x l
  if k < l.length∧(l.getD k zFnd).lba = x.lba then (if (l.getD k zFnd).seq ≤ x.seq then l.set k x else l) else l.take k ++ x :: l.drop k
open Classical in
noncomputable def refN (pg:Nat→List UInt8):Nat→List Fnd
  | 0=>[]
  | i + 1=>if Counts pg i then insF (fndOf pg i) (refN pg i) else refN pg i
open Classical in
theorem refN_succ (pg:Nat→List UInt8) (i:Nat):refN pg (i + 1) = if Counts pg i then insF (fndOf pg i) (refN pg i) else refN pg i:=rfl
theorem insF_len (x:Fnd) (l:List Fnd):(insF x l).length ≤ l.length + 1:=by
  unfold insF
  dsimp only
  split
  · split <;> simp
  · simp
    omega
theorem refN_len (pg:Nat→List UInt8):∀ i,(refN pg i).length ≤ i
  | 0=>Nat.le_refl _
  | i + 1=>by
    have h1:=refN_len pg i
    have h2:=insF_len (fndOf pg i) (refN pg i)
    unfold refN
    split <;> omega
theorem insF_cases (x:Fnd):∀ (l:List Fnd),l.Pairwise (fun a b=>a.lba < b.lba) →
    (∃ a b:List Fnd,l = a ++ b∧insF x l = a ++ x :: b∧(∀ y ∈ a,y.lba < x.lba)∧∀ y ∈ b,x.lba < y.lba) ∨
    (∃ (a b:List Fnd) (z:Fnd),l = a ++ z :: b∧z.lba = x.lba∧(∀ y ∈ a,y.lba < x.lba)∧(∀ y ∈ b,x.lba < y.lba)∧(z.seq ≤ x.seq∧insF x l = a ++ x :: b ∨ ¬ z.seq ≤ x.seq∧insF x l = l))
  | [],_=>.inl ⟨[],[],rfl,by simp [insF,posF],by simp,by simp⟩
  | y :: l,h=>by
    rw [List.pairwise_cons] at h
    by_cases h1:y.lba < x.lba
    · have hp:posF x (y :: l) = posF x l + 1:=if_pos h1
      have hi:insF x (y :: l) = y :: insF x l:=by
        unfold insF
        dsimp only
        rw [hp]
        simp only [List.length_cons,List.getD_cons_succ,List.set_cons_succ,List.take_succ_cons,List.drop_succ_cons,List.cons_append,Nat.add_lt_add_iff_right]
        split
        · split <;> rfl
        · rfl
      rcases insF_cases x l h.2 with ⟨a,b,e1,e2,e3,e4⟩ | ⟨a,b,z,e1,e2,e3,e4,e5⟩
      · exact .inl ⟨y :: a,b,by rw [e1]; rfl,by rw [hi,e2]; rfl,fun q hq=>by rcases List.mem_cons.1 hq with rfl | hq; exact h1; exact e3 q hq,e4⟩
      · refine .inr ⟨y :: a,b,z,by rw [e1]; rfl,e2,fun q hq=>by rcases List.mem_cons.1 hq with rfl | hq; exact h1; exact e3 q hq,e4,e5.imp (fun e=>⟨e.1,by rw [hi,e.2]; rfl⟩) fun e=>⟨e.1,by rw [hi,e.2]⟩⟩
    · have hp:posF x (y :: l) = 0:=by unfold posF; rw [if_neg h1]
      by_cases h2:y.lba = x.lba
      · refine .inr ⟨[],l,y,rfl,h2,by simp,fun q hq=>by have:=h.1 q hq; omega, ?_⟩
        by_cases h3:y.seq ≤ x.seq
        · exact .inl ⟨h3,by unfold insF; dsimp only; rw [hp]; simp [h2,h3]⟩
        · exact .inr ⟨h3,by unfold insF; dsimp only; rw [hp]; simp [h2,h3]⟩
      · refine .inl ⟨[],y :: l,rfl,by unfold insF; dsimp only; rw [hp]; simp [h2],by simp,fun q hq=>?_⟩
        rcases List.mem_cons.1 hq with rfl | hq
        · omega
        · have:=h.1 q hq
          omega
theorem refN_is (pg:Nat→List UInt8):∀ i,NewI pg i (refN pg i)
  | 0=>⟨List.Pairwise.nil,fun e he=>absurd he (by simp [refN]),fun e he=>absurd he (by simp [refN]),fun k hk=>by omega⟩
  | i + 1=>by
    have ih:=refN_is pg i
    by_cases hc:Counts pg i
    · have he:refN pg (i + 1) = insF (fndOf pg i) (refN pg i):=by rw [refN_succ,if_pos hc]
      rw [he]
      clear he
      obtain ⟨x,hx⟩:∃ x,x = fndOf pg i:=⟨_,rfl⟩
      have hxp:x.page = i:=by rw [hx]; rfl
      rw [← hx]
      generalize refN pg i = l at ih ⊢
      obtain ⟨i1,i2,i3,i4⟩:=ih
      have hpg:∀ e ∈ l,∃ k:Nat,k < i∧e.page = k:=fun e he=>by
        obtain ⟨k,k1,k2,rfl⟩:=i2 e he
        exact ⟨k,k1,rfl⟩
      have nb:∀ e ∈ l,∀ j,j < i + 1→Counts pg j→(fndOf pg j).lba = e.lba→e.lba ≠ x.lba→¬ Better (fndOf pg j) e:=fun e he j hj hcj h1 h2=>by
        rcases Nat.lt_or_ge j i with h | h
        · exact i3 e he j h hcj h1
        · obtain rfl:j = i:=by omega
          rw [← hx] at h1
          exact absurd h1.symm h2
      have hxx:∀ j,j < i + 1→Counts pg j→(fndOf pg j).lba = x.lba→(∀ z ∈ l,z.lba = x.lba→z.seq ≤ x.seq)→¬ Better (fndOf pg j) x:=fun j hj hcj h1 hz hb=>by
        rcases Nat.lt_or_ge j i with h | h
        · obtain ⟨e,e1,e2⟩:=i4 j h hcj
          have h5:=hz e e1 (by rw [e2,h1])
          have h6:=i3 e e1 j h hcj e2.symm
          have hpj:(fndOf pg j).page = j:=rfl
          rcases hb with hb | ⟨hb,hp⟩
          · exact h6 (.inl (by omega))
          · rw [hxp,hpj] at hp
            omega
        · obtain rfl:j = i:=by omega
          rw [← hx] at hb
          exact better_irr _ hb
      rcases insF_cases x l i1 with ⟨a,b,e1,e2,e3,e4⟩ | ⟨a,b,z,e1,e2,e3,e4,⟨e5,e6⟩ | ⟨e5,e6⟩⟩
      · rw [e2]
        have hmem:∀ e,e ∈ a ++ x :: b ↔ e = x ∨ e ∈ l:=fun e=>by rw [e1,List.mem_append,List.mem_append,List.mem_cons]; exact ⟨fun h=>h.elim (fun h=>.inr (.inl h)) fun h=>h.imp id .inr,fun h=>h.elim (fun h=>.inr (.inl h)) fun h=>h.imp id .inr⟩
        have hne:∀ e ∈ l,e.lba ≠ x.lba:=fun e he=>by
          rw [e1] at he
          rcases List.mem_append.1 he with h | h
          · have:=e3 e h
            omega
          · have:=e4 e h
            omega
        refine ⟨?_,fun e he=>?_,fun e he j hj hcj h1=>?_,fun k hk hck=>?_⟩
        · rw [e1] at i1
          rw [List.pairwise_append] at i1 ⊢
          refine ⟨i1.1,List.pairwise_cons.2 ⟨fun q hq=>e4 q hq,i1.2.1⟩,fun p hp q hq=>?_⟩
          rcases List.mem_cons.1 hq with rfl | hq
          · exact e3 p hp
          · exact i1.2.2 p hp q hq
        · rcases (hmem e).1 he with rfl | he
          · exact ⟨i,by omega,hc,hx⟩
          · obtain ⟨k,k1,k2⟩:=i2 e he
            exact ⟨k,by omega,k2⟩
        · rcases (hmem e).1 he with rfl | he
          · exact hxx j hj hcj h1 fun z hz hzz=>absurd hzz (hne z hz)
          · exact nb e he j hj hcj h1 (hne e he)
        · rcases Nat.lt_or_ge k i with h | h
          · obtain ⟨e,q1,q2⟩:=i4 k h hck
            exact ⟨e,(hmem e).2 (.inr q1),q2⟩
          · obtain rfl:k = i:=by omega
            exact ⟨x,(hmem x).2 (.inl rfl),by rw [hx]⟩
      · rw [e6]
        have hsub:∀ e,e ∈ a ++ x :: b→e = x ∨ (e ∈ l∧e.lba ≠ x.lba):=fun e he=>by
          rcases List.mem_append.1 he with h | h
          · exact .inr ⟨by rw [e1]; simp [h],by have:=e3 e h; omega⟩
          · rcases List.mem_cons.1 h with rfl | h
            · exact .inl rfl
            · exact .inr ⟨by rw [e1]; simp [h],by have:=e4 e h; omega⟩
        have honly:∀ q ∈ l,q.lba = x.lba→q = z:=fun q hq hqx=>by
          rw [e1] at hq
          rcases List.mem_append.1 hq with h | h
          · have:=e3 q h
            omega
          · rcases List.mem_cons.1 h with rfl | h
            · rfl
            · have:=e4 q h
              omega
        refine ⟨?_,fun e he=>?_,fun e he j hj hcj h1=>?_,fun k hk hck=>?_⟩
        · rw [e1] at i1
          rw [List.pairwise_append] at i1 ⊢
          refine ⟨i1.1,List.pairwise_cons.2 ⟨fun q hq=>e4 q hq,(List.pairwise_cons.1 i1.2.1).2⟩,fun p hp q hq=>?_⟩
          rcases List.mem_cons.1 hq with rfl | hq
          · exact e3 p hp
          · exact i1.2.2 p hp q (List.mem_cons_of_mem _ hq)
        · rcases hsub e he with rfl | ⟨he,-⟩
          · exact ⟨i,by omega,hc,hx⟩
          · obtain ⟨k,k1,k2⟩:=i2 e he
            exact ⟨k,by omega,k2⟩
        · rcases hsub e he with rfl | ⟨he,hn⟩
          · exact hxx j hj hcj h1 fun q hq hqx=>by rw [honly q hq hqx]; exact e5
          · exact nb e he j hj hcj h1 hn
        · rcases Nat.lt_or_ge k i with h | h
          · obtain ⟨e,q1,q2⟩:=i4 k h hck
            by_cases hq:e.lba = x.lba
            · exact ⟨x,by simp,by rw [← hq,q2]⟩
            · refine ⟨e, ?_,q2⟩
              rw [e1] at q1
              rcases List.mem_append.1 q1 with h | h
              · simp [h]
              · rcases List.mem_cons.1 h with rfl | h
                · exact absurd e2 hq
                · simp [h]
          · obtain rfl:k = i:=by omega
            exact ⟨x,by simp,by rw [hx]⟩
      · rw [e6]
        have hzl:z ∈ l:=by rw [e1]; simp
        refine ⟨i1,fun e he=>?_,fun e he j hj hcj h1=>?_,fun k hk hck=>?_⟩
        · obtain ⟨k,k1,k2⟩:=i2 e he
          exact ⟨k,by omega,k2⟩
        · rcases Nat.lt_or_ge j i with h | h
          · exact i3 e he j h hcj h1
          · obtain rfl:j = i:=by omega
            rw [← hx] at h1 ⊢
            have hez:e = z:=by
              rw [e1] at he
              rcases List.mem_append.1 he with h | h
              · have:=e3 e h
                omega
              · rcases List.mem_cons.1 h with rfl | h
                · rfl
                · have:=e4 e h
                  omega
            subst hez
            rintro (hb | ⟨hb,-⟩) <;> omega
        · rcases Nat.lt_or_ge k i with h | h
          · exact i4 k h hck
          · obtain rfl:k = i:=by omega
            exact ⟨z,hzl,by rw [e2,hx]⟩
    · have he:refN pg (i + 1) = refN pg i:=by rw [refN_succ,if_neg hc]
      rw [he]
      have key:∀ j,j < i + 1→Counts pg j→j < i:=fun j hj hcj=>by
        rcases Nat.lt_or_ge j i with h | h
        · exact h
        · obtain rfl:j = i:=by omega
          exact absurd hcj hc
      exact ⟨ih.srt,fun e he=>by obtain ⟨k,k1,k2⟩:=ih.is_ e he; exact ⟨k,by omega,k2⟩,fun e he j hj hcj h1=>ih.max e he j (key j hj hcj) hcj h1,fun k hk hck=>ih.has k (key k hk hck) hck⟩
end Go.Proofs.YtlaipigilikmbaaGreatDoor.RefS

namespace Go.Proofs.YtlaipigilikmbaaGreatDoor.RefW
open Go.RowKit Fram Crc CrcW

theorem byte_low (x k:Nat):((x:Int) / 2 ^ (8 * k)) % 256 = ((UInt8.ofNat (x / 256 ^ k)).toNat:Int):=by
  have e0:(256:Nat) ^ k = 2 ^ (8 * k):=by rw [show (256:Nat) = 2 ^ 8 from rfl,← Nat.pow_mul]
  rw [UInt8.toNat_ofNat',e0]
  have:((x:Int) / 2 ^ (8 * k)) = ((x / 2 ^ (8 * k):Nat):Int):=by simp
  rw [this]
  omega
theorem u8v_snoc (l:List UInt8) (z:UInt8):u8v (l ++ [z]) = u8v l ++ [.int .u8 (z.toNat:Int)]:=by simp [u8v]

set_option maxHeartbeats 1000000 in
theorem lowFirst_any (x m:Nat) (w:World) (hm:m ≤ 8) (hx:x ≤ 9223372036854775807) :
    Calls Tryz.prog 57 #[.int .i64 x,.int .i64 m] w fun e w'=>∃ A c,e = .returned (.slice A m c)∧m ≤ c∧w'.ownsRow w.heap.size 5 1 (.slice A m c) m (u8v (lowB x m))∧Below w.heap.size w w':=by
  obtain ⟨i0,hi0,hz0,hz1,hz2⟩:=info_parts u8_info
  go_enter Tryz.func57,Tryz.ntmps57
  go_wp2
  go_loopw [5,6] (fun u i wr=>∃ j:Nat,j ≤ m∧i = .int .i64 j∧wr.ownsRow w.heap.size 5 1 u j (u8v (lowB x j))∧Below w.heap.size w wr) (fun _ i _=>m - (intOf i).toNat)
  case atStart=>exact ⟨0,by omega,rfl,by simpa [lowB_zero,u8v] using World.ownsRow_nil _ _ _ _,Below.refl _ _⟩
  case round =>
    obtain ⟨j,hj,rfl,hown,hb⟩:=hrel
    have hbase:=hb.size
    by_cases hlt:j < m
    · have hd:decide ((j:Int) < (m:Int)) = true:=by simp; omega
      have hby:=byte_low x j
      obtain ⟨z,hz⟩:∃ z,z = UInt8.ofNat (x / 256 ^ j):=⟨_,rfl⟩
      rw [← hz] at hby
      have HS:Hid (u8v (lowB x (j + 1)) = u8v (lowB x j) ++ [.int .u8 (z.toNat:Int)]):=by
        rw [lowB_succ,← hz,u8v_snoc]; exact hide rfl
      clear hz
      generalize u8v (lowB x j) = cs at hown HS
      go_wp2_with (first
        | (at_builtin
           refine wpList_append_rd _ rfl (.tmp 12) (.tmp 18) 25 rfl w.heap.size 5 i0 _ 1 Tryz.underlying25 hi0 hz0 hz1 hz2 rfl _ j cs rfl (by exact hown.alloc _) _ 1 1 [.int .u8 (z.toNat:Int)] rfl rfl (Rd.one _ _ _) ?_ ?_ ?_ ?_ ?_
           · intro u hu; simp at hu; subst hu; rfl
           · simp only [maxLen]; omega
           · omega
           · simp; omega
           intro v' w4 hown4 hg4
           have hb4:=below_own (hb.alloc hbase _) (hown.alloc _) hg4 (by simp; omega) (Nat.le_refl _)))
      go_roundw
      case rel=>exact ⟨j + 1,by omega,by go_num,by rw [HS.out]; exact hown4,hb4⟩
      case measure=>simp [intOf]; omega
    · go_wp2
      go_ret
      obtain rfl:j = m:=by omega
      obtain ⟨A,c,rfl,hc,-,-,-,-⟩:=own_form hown
      exact ⟨A,c,rfl,hc,hown,hb⟩

theorem lowFirst_int (x:Int) (m:Nat) (q:Int) (w:World) (hq:q = (m:Int)) (hm:m ≤ 8) (h0:0 ≤ x) (hx:x ≤ 9223372036854775807) :
    Calls Tryz.prog 57 #[.int .i64 x,.int .i64 q] w fun e w'=>∃ A c,e = .returned (.slice A m c)∧m ≤ c∧w'.ownsRow w.heap.size 5 1 (.slice A m c) m (u8v (lowB x.toNat m))∧Below w.heap.size w w':=by
  subst hq
  obtain ⟨x,rfl⟩:=Int.eq_ofNat_of_zero_le h0
  exact lowFirst_any x m w hm (by omega)

theorem step_one (x:BitVec 32) (h:x.toNat % 2 = 1):bits .xor .u32 ((x.toNat:Int) / 2) 3988292384 = ((bitStep x).toNat:Int):=by
  have hx:=x.isLt
  rw [bitStep_toNat,if_pos h]
  have e2:((x.toNat:Int) / 2) = ((x.toNat / 2:Nat):Int):=by omega
  rw [e2,show (3988292384:Int) = ((3988292384:Nat):Int) from rfl]
  exact u32_xor_nat _ _ (by omega) (by omega)
theorem step_none (x:BitVec 32) (h:¬ x.toNat % 2 = 1):((x.toNat:Int) / 2) = ((bitStep x).toNat:Int):=by
  rw [bitStep_toNat,if_neg h,Nat.xor_zero]
  omega
theorem not_ref (x:BitVec 32):bits .xor .u32 (x.toNat:Int) 4294967295 = ((~~~ x).toNat:Int):=by
  have hx:=x.isLt
  rw [show (4294967295:Int) = ((4294967295:Nat):Int) from rfl,u32_xor_nat _ _ hx (by omega),BitVec.toNat_not]
  have:=congrArg BitVec.toNat (BitVec.xor_allOnes (x:=x))
  rw [BitVec.toNat_xor,BitVec.toNat_not,BitVec.toNat_allOnes] at this
  exact congrArg Int.ofNat this

set_option maxHeartbeats 1000000 in
theorem refCrc_any (A:Option Addr) (l:List UInt8) (n cap:Nat) (w:World) (hn:n = l.length) (hl:n ≤ 140737488355328) (hr:Rd w A (u8v l)) :
    Calls Tryz.prog 58 #[.slice A n cap] w fun e w'=>e = .returned (.int .u32 (crc l).toNat)∧w = w':=by
  subst hn
  go_enter Tryz.func58,Tryz.ntmps58
  go_wp2
  go_loop [3,4,5,6] (fun c i _ _=>∃ (k:Nat) (x:BitVec 32),k ≤ l.length∧i = .int .i64 k∧c = .int .u32 x.toNat∧Hid (x = reg 0xFFFFFFFF#32 (l.take k))) (fun _ i _ _=>l.length - (intOf i).toNat)
  case atStart=>exact ⟨0,0xFFFFFFFF#32,by omega,rfl,rfl,hide (by simp [reg])⟩
  case round =>
    obtain ⟨k,x,hk,rfl,rfl,HX⟩:=hrel
    by_cases hlt:k < l.length
    · obtain ⟨b,off,rfl,hck⟩:=hr.at_ (i:=k) (by simpa [u8v] using hlt)
      simp only [u8v,List.getElem_map] at hck
      have hd:decide ((k:Int) < (l.length:Int)) = true:=by simp; omega
      have hms:=mix_spelt x l[k]
      have HR:=hide (congrArg (fun t=>reg 0xFFFFFFFF#32 t) (List.take_succ_eq_append_getElem hlt))
      simp only [reg_snoc] at HR
      have HB:Hid (byteStep x l[k] = bitSteps 8 (x ^^^ BitVec.ofNat 32 l[k].toNat)):=hide rfl
      generalize x ^^^ BitVec.ofNat 32 l[k].toNat = y at hms HB
      go_wp2
      clear hms hck
      go_loop [3,5,6] (fun c i _=>∃ (j:Nat) (z:BitVec 32),j ≤ 8∧i = .int .i64 j∧c = .int .u32 z.toNat∧Hid (z = bitSteps j y)) (fun _ i _=>8 - (intOf i).toNat)
      case atStart=>exact ⟨0,y,by omega,rfl,rfl,hide rfl⟩
      case round =>
        obtain ⟨j,z,hj,rfl,rfl,HZ⟩:=hrel
        by_cases hlt:j < 8
        · have HZ':Hid (bitStep z = bitSteps (j + 1) y):=by rw [HZ.out]; exact hide rfl
          by_cases hb:z.toNat % 2 = 1
          · have hst:=step_one z hb
            have hbi:(z.toNat:Int) % 2 = 1:=by omega
            generalize bitStep z = z' at hst HZ'
            go_wp2
            go_round
            case rel=>exact ⟨j + 1,z',by omega,by go_num,rfl,HZ'⟩
            case measure=>simp [intOf]; omega
          · have hst:=step_none z hb
            have hbi:(z.toNat:Int) % 2 = 0:=by omega
            have HST:=hide hst
            clear hst
            generalize bitStep z = z' at HST HZ'
            go_wp2
            go_round
            case rel=>exact ⟨j + 1,z',by omega,by go_num,by rw [HST.out],HZ'⟩
            case measure=>simp [intOf]; omega
        · go_wp2
          go_round
          case rel =>
            refine ⟨k + 1,z,by omega,by go_num,rfl, ?_⟩
            obtain rfl:j = 8:=by omega
            have h1:=HR.out
            unfold Hid
            rw [h1,HZ.out,← HB.out,HX.out]
          case measure=>simp [intOf]; omega
    · have hn:=not_ref x
      have HF:Hid (crc l = ~~~ x):=by
        obtain rfl:k = l.length:=by omega
        rw [HX.out,List.take_length]; exact hide rfl
      generalize ~~~ x = y at hn HF
      go_wp2
      go_ret
      exact ⟨by rw [HF.out]; rfl,rfl⟩
end Go.Proofs.YtlaipigilikmbaaGreatDoor.RefW
