/- A call of granarysame.Error, in the judgement: whether an error is the one told. -/
import Derived.Test.YtlaipigilikmbaaGreatDoorErRMb
set_option linter.unusedVariables false
namespace Go.Proofs.YtlaipigilikmbaaGreatDoor.Cl
open Go Go.Conc Go.Proofs.YtlaipigilikmbaaGreatDoor.Co Go.Proofs.YtlaipigilikmbaaGreatDoor.Ph Go.Extern
structure ErW (w u:World) (l:List Obj):Prop where
  size:u.heap.size = w.heap.size + l.length
  old:∀ x,x < w.heap.size→u.heap[x]? = w.heap[x]?
  new:∀ i o,l[i]? = some o→u.heap[w.heap.size + i]? = some o
  still:u.os = w.os∧u.output = w.output
theorem ErW.refl (w:World):ErW w w []:=⟨rfl,fun _ _=>rfl,fun i o h=>by simp at h,rfl,rfl⟩
theorem ErW.push {w u:World} {l:List Obj} (h:ErW w u l) (o:Obj):ErW w { u with heap:=u.heap.push o } (l ++ [o]):=by
  refine ⟨by simp [h.size]; omega,fun x hx=>?_,fun i p hi=>?_,h.still⟩
  · have:=h.size
    simp only [Array.getElem?_push]
    rw [if_neg (by omega)]
    exact h.old x hx
  · have:=h.size
    simp only [Array.getElem?_push]
    rcases Nat.lt_trichotomy i l.length with h1 | h1 | h1
    · rw [if_neg (by omega)]
      rw [List.getElem?_append_left h1] at hi
      exact h.new i p hi
    · subst h1
      rw [if_pos (by omega)]
      simpa using hi
    · rw [List.getElem?_eq_none (by simp; omega)] at hi
      cases hi
theorem ErW.set {w u:World} {l:List Obj} (h:ErW w u l) {i:Nat} {old new:Array Value} {t:TypeId} (hi:l[i]? = some (.cells old t (0,0))):ErW w (u.setRow (w.heap.size + i) new) (l.set i (.cells new t (0,0))):=by
  refine ⟨by simp [World.setRow,h.size],fun x hx=>?_,fun j p hj=>?_,h.still⟩
  · simp only [World.setRow,Array.getElem?_modify]
    rw [if_neg (by omega)]
    exact h.old x hx
  · simp only [World.setRow,Array.getElem?_modify]
    rw [List.getElem?_set] at hj
    by_cases hij:i = j
    · subst hij
      rw [if_pos rfl] at hj
      rw [if_pos rfl,h.new i _ hi]
      have hl:i < l.length:=(List.getElem?_eq_some_iff.1 hi).1
      rw [if_pos hl] at hj
      simpa using hj
    · rw [if_neg hij] at hj
      rw [if_neg (by omega)]
      exact h.new j p hj
theorem ErW.cell {w u:World} {l:List Obj} (h:ErW w u l) {i:Nat} {x:Array Value} {t:TypeId} {fz:Nat × Nat} {v:Value} (hi:l[i]? = some (.cells x t fz)) (hx:x[0]? = some v):u.cell? ⟨w.heap.size + i,0,none⟩ = some v:=by
  simp [World.cell?,h.new i _ hi,hx]
section
variable {Q:Value→World→Prop} {Z:Nat→Prop} {w:World} {c:Frame} {cs:List Frame} {n k:Int}
theorem wins_nil (hk:Wins Tryz.prog Q Z (G (c.finish (.bool (decide (0 = k)))) cs) w):Wins Tryz.prog Q Z (en0 k c cs) w:=by
  refine wins_calms 32 (en0_calm k c cs) ?_
  rw [en0_it]
  refine wins_calms 4 (enP_calm k c cs) ?_
  rw [enP_it]
  exact hk
theorem wins_err (hg:ToldW.ErrT w) (hgz:¬ Z 0) (hz:∀ x,Z x→x < w.heap.size)
    (hk:∀ w',w.heap.size ≤ w'.heap.size→(∀ x,x < w.heap.size→w'.heap[x]? = w.heap[x]?)→w'.os = w.os∧w'.output = w.output→Wins Tryz.prog Q Z (G (c.finish (.bool (decide (n = k)))) cs) w'):Wins Tryz.prog Q Z (er0 n k c cs) w:=by
  have hnz:∀ i,¬ Z (w.heap.size + i):=fun i h=>by have:=hz _ h; omega
  have mk1:∀ f e,e ∈ (#[⟨.mark (.extern f),false,true⟩]:Array Event)→∃ i,e.loc = .mark (.extern i):=fun f e he=>by
    simp at he
    subst he
    exact ⟨_,rfl⟩
  refine wins_calms 22 (er0_calm n k c cs) ?_
  show Wins Tryz.prog Q Z (erA n k c cs) _
  refine wins_push (V:=fun h=>.pointer (some ⟨h,0,none⟩)) (erA_at n k c cs) (erA_run n k c cs) (erA_op n k c cs) (fun e he=>by simp at he) ?_
  have s1:=(ErW.refl w).push (.cells #[.int .i64 0] 38 (0,0))
  generalize { w with heap:=w.heap.push (.cells #[.int .i64 0] 38 (0,0)) } = u1 at s1 ⊢
  refine wins_calms 30 (erA_calm n k c cs w.heap.size) ?_
  show Wins Tryz.prog Q Z (erB n k c cs _) _
  refine wins_push (V:=fun h=>erV1 h) (erB_at n k c cs _) (erB_run n k c cs _) (erB_op n k c cs _) (mk1 _) ?_
  have e1:u1.heap.size = w.heap.size + 1:=s1.size
  rw [e1]
  have s2:=s1.push (.cells #[.pointer (some ⟨w.heap.size,0,none⟩)] 103 (0,0))
  generalize { u1 with heap:=u1.heap.push (.cells #[.pointer (some ⟨w.heap.size,0,none⟩)] 103 (0,0)) } = u2 at s2 ⊢
  show Wins Tryz.prog Q Z (erC n k c cs _ _) _
  refine wins_push (V:=fun h=>.pointer (some ⟨h,0,none⟩)) (erC_at n k c cs _ _) (erC_run n k c cs _ _) (erC_op n k c cs _ _) (fun e he=>by simp at he) ?_
  have e2:u2.heap.size = w.heap.size + 2:=s2.size
  rw [e2]
  have s3:=s2.push (.cells #[.pointer none,.pointer none,.int .u64 0] 130 (0,0))
  generalize { u2 with heap:=u2.heap.push (.cells #[.pointer none,.pointer none,.int .u64 0] 130 (0,0)) } = u3 at s3 ⊢
  show Wins Tryz.prog Q Z (erD n k c cs _ _ _) _
  refine wins_storeRow (erD_at n k c cs _ _ _) (erD_run n k c cs _ _ _) (erD_op n k c cs _ _ _) (erD_x n k c cs _ _ _) (erD_y n k c cs _ _ _) (s3.new 2 _ rfl) (hnz 2) (by kernel_rfl) rfl (by kernel_rfl) ?_
  have s4:=s3.set (i:=2) (new:=#[hdl 103,.pointer (some ⟨w.heap.size + 1,0,none⟩),.int .u64 150]) rfl
  generalize u3.setRow (w.heap.size + 2) #[hdl 103,.pointer (some ⟨w.heap.size + 1,0,none⟩),.int .u64 150] = u4 at s4 ⊢
  have b4:=s4.new 2 _ rfl
  refine wins_calms 3 (erD_calm n k c cs _ _ _) ?_
  show Wins Tryz.prog Q Z (erE n k c cs _ _ _) _
  refine wins_loadRow (erE_at n k c cs _ _ _) (erE_run n k c cs _ _ _) (erE_op n k c cs _ _ _) (erE_x n k c cs _ _ _) Tryz.underlying130 rfl (by kernel_rfl) b4 (hnz 2) ?_
  refine wins_calms 10 (erE_calm n k c cs _ _ _) ?_
  show Wins Tryz.prog Q Z (erF n k c cs _ _ _) _
  refine wins_loadRow (erF_at n k c cs _ _ _) (erF_run n k c cs _ _ _) (erF_op n k c cs _ _ _) (erF_x n k c cs _ _ _) Tryz.underlying130 rfl (by kernel_rfl) b4 (hnz 2) ?_
  have c4:u4.cell? ⟨w.heap.size + 1,0,none⟩ = some (.pointer (some ⟨w.heap.size,0,none⟩)):=s4.cell (i:=1) rfl rfl
  have z4:u4.heap.size = w.heap.size + 3:=s4.size
  have own:∀ {m:Nat} (i:Nat),w.heap.size + i < m→(fun x=>¬ Z x∧x < m) (w.heap.size + i):=fun i h=>⟨hnz i,h⟩
  show Wins Tryz.prog Q Z (erG n k c cs _ _ _) _
  refine wins_op (w':=u4) (v:=.bool false) (erG_at n k c cs _ _ _) (erG_run n k c cs _ _ _) (Nat.le_refl _) (fun τ d=>?_) (fun τ d e hm=>?_) ?_
  · rw [← Sem.runT_fst _ _ _ #[],erG_op,Sem.runT_bind',isNilT (u:=Co.re u4 τ d) _ c4]
    rfl
  · unfold Sem.events at hm
    rw [erG_op,Sem.runT_bind',isNilT (u:=Co.re u4 τ d) _ c4] at hm
    have hm:e ∈ (#[⟨.mark (.extern 64),false,true⟩,⟨.cell ⟨w.heap.size + 1,0,none⟩,false,false⟩]:Array Event):=hm
    simp at hm
    rcases hm with rfl | rfl
    · exact .inr (.inr (.inr ⟨_,rfl⟩))
    · exact .inl ⟨_,rfl,rfl,.inl (own 1 (by omega))⟩
  refine wins_calms 18 (erG_calm n k c cs _ _ _) ?_
  have hgl:=hg.lt
  show Wins Tryz.prog Q Z (erH n k c cs _ _ _) _
  refine wins_load (a:=⟨0,0,none⟩) (v:=rtI 29) (erH_at n k c cs _ _ _) (erH_run n k c cs _ _ _) (erH_op n k c cs _ _ _) (erH_x n k c cs _ _ _) Tryz.underlying133 rfl ?_ hgz ?_
  · unfold World.cell?
    rw [s4.old _ hgl]
    exact hg
  refine wins_calms 10 (erH_calm n k c cs _ _ _) ?_
  show Wins Tryz.prog Q Z (erI n k c cs _ _ _) _
  refine wins_loadRow (erI_at n k c cs _ _ _) (erI_run n k c cs _ _ _) (erI_op n k c cs _ _ _) (erI_x n k c cs _ _ _) Tryz.underlying130 rfl (by kernel_rfl) b4 (hnz 2) ?_
  refine wins_calms 4 (erI_calm n k c cs _ _ _) ?_
  show Wins Tryz.prog Q Z (erJ n k c cs _ _ _) _
  refine wins_push (V:=fun h=>.pointer (some ⟨h,0,none⟩)) (erJ_at n k c cs _ _ _) (erJ_run n k c cs _ _ _) (erJ_op n k c cs _ _ _) (fun e he=>by simp at he) ?_
  rw [z4]
  have s5:=s4.push (.cells #[hdl 103,.pointer (some ⟨w.heap.size + 1,0,none⟩),.int .u64 150] 130 (0,0))
  generalize { u4 with heap:=u4.heap.push (.cells #[hdl 103,.pointer (some ⟨w.heap.size + 1,0,none⟩),.int .u64 150] 130 (0,0)) } = u5 at s5 ⊢
  have z5:u5.heap.size = w.heap.size + 4:=s5.size
  have c5:u5.cell? ⟨w.heap.size + 1,0,none⟩ = some (.pointer (some ⟨w.heap.size,0,none⟩)):=s5.cell (i:=1) rfl rfl
  refine wins_calms 16 (erJ_calm n k c cs _ _ _ _) ?_
  show Wins Tryz.prog Q Z (erK n k c cs _ _ _ _) _
  refine wins_loadRow (erK_at n k c cs _ _ _ _) (erK_run n k c cs _ _ _ _) (erK_op n k c cs _ _ _ _) (erK_x n k c cs _ _ _ _) Tryz.underlying130 rfl (by kernel_rfl) (s5.new 3 _ rfl) (hnz 3) ?_
  show Wins Tryz.prog Q Z (erL n k c cs _ _ _ _) _
  refine wins_op (w':=u5) (v:=erV2 w.heap.size) (erL_at n k c cs _ _ _ _) (erL_run n k c cs _ _ _ _) (Nat.le_refl _) (fun τ d=>?_) (fun τ d e hm=>?_) ?_
  · rw [← Sem.runT_fst _ _ _ #[],erL_op,Sem.runT_bind',elemVT (u:=Co.re u5 τ d) _ c5]
    rfl
  · unfold Sem.events at hm
    rw [erL_op,Sem.runT_bind',elemVT (u:=Co.re u5 τ d) _ c5] at hm
    have hm:e ∈ (#[⟨.mark (.extern 94),false,true⟩,⟨.cell ⟨w.heap.size + 1,0,none⟩,false,false⟩]:Array Event):=hm
    simp at hm
    rcases hm with rfl | rfl
    · exact .inr (.inr (.inr ⟨_,rfl⟩))
    · exact .inl ⟨_,rfl,rfl,.inl (own 1 (by omega))⟩
  refine wins_calms 1 (erL_calm n k c cs _ _ _ _) ?_
  show Wins Tryz.prog Q Z (erM n k c cs _ _ _ _) _
  refine wins_push (V:=fun h=>erV3 h) (erM_at n k c cs _ _ _ _) (erM_run n k c cs _ _ _ _) (erM_op n k c cs _ _ _ _) (mk1 _) ?_
  rw [z5]
  have s6:=s5.push (.cells #[.int .i64 n] 38 (0,0))
  generalize { u5 with heap:=u5.heap.push (.cells #[.int .i64 n] 38 (0,0)) } = u6 at s6 ⊢
  have z6:u6.heap.size = w.heap.size + 5:=s6.size
  have q6:u6.cell? ⟨w.heap.size + 4,0,none⟩ = some (.int .i64 n):=s6.cell (i:=4) rfl rfl
  have b6:u6.heap[w.heap.size]? = some (.cells #[.int .i64 0] 38 (0,0)):=s6.new 0 _ rfl
  show Wins Tryz.prog Q Z (erN n k c cs _ _ _ _ _) _
  refine wins_op (w':=u6.setRow w.heap.size #[.int .i64 n]) (v:=.tuple #[]) (erN_at n k c cs _ _ _ _ _) (erN_run n k c cs _ _ _ _ _) (by simp [World.setRow]) (fun τ d=>?_) (fun τ d e hm=>?_) ?_
  · rw [← Sem.runT_fst _ _ _ #[],erN_op,Sem.runT_bind',setT (u:=Co.re u6 τ d) _ b6 rfl q6]
    rfl
  · unfold Sem.events at hm
    rw [erN_op,Sem.runT_bind',setT (u:=Co.re u6 τ d) _ b6 rfl q6] at hm
    have hm:e ∈ (#[⟨.mark (.extern 95),false,true⟩,⟨.cell ⟨w.heap.size + 4,0,none⟩,false,false⟩,⟨.cell ⟨w.heap.size,0,none⟩,true,false⟩]:Array Event):=hm
    simp at hm
    rcases hm with rfl | rfl | rfl
    · exact .inr (.inr (.inr ⟨_,rfl⟩))
    · exact .inl ⟨_,rfl,rfl,.inl (own 4 (by simp [World.setRow]; omega))⟩
    · exact .inl ⟨_,rfl,rfl,.inl (own 0 (by simp [World.setRow]; omega))⟩
  have s7:=s6.set (i:=0) (new:=#[.int .i64 n]) rfl
  rw [Nat.add_zero] at s7
  generalize u6.setRow w.heap.size #[.int .i64 n] = u7 at s7 ⊢
  refine wins_calms 15 (erN_calm n k c cs _ _ _ _ _) ?_
  show Wins Tryz.prog Q Z (erO n k c cs _ _ _ _ _) _
  refine wins_load (a:=⟨w.heap.size,0,none⟩) (v:=.int .i64 n) (erO_at n k c cs _ _ _ _ _) (erO_run n k c cs _ _ _ _ _) (erO_op n k c cs _ _ _ _ _) (erO_x n k c cs _ _ _ _ _) Tryz.underlying38 rfl (s7.cell (i:=0) rfl rfl) (hnz 0) ?_
  refine wins_calms 11 (erO_calm n k c cs _ _ _ _ _) ?_
  show Wins Tryz.prog Q Z (it Tryz.prog 11 (fin (erO n k c cs _ _ _ _ _) (.int .i64 n))) _
  rw [erO_it]
  refine wins_calms 4 (erP_calm n k c cs _ _ _ _ _) ?_
  show Wins Tryz.prog Q Z (it Tryz.prog 4 (erP n k c cs _ _ _ _ _)) _
  rw [erP_it]
  exact hk u7 (by rw [s7.size]; omega) s7.old s7.still
end
end Go.Proofs.YtlaipigilikmbaaGreatDoor.Cl
