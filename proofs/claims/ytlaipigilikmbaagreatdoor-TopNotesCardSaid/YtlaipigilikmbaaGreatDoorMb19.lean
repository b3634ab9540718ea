/- Texts of this seat,put together: WkNegs. -/
import Derived.Test.YtlaipigilikmbaaGreatDoorMb18
namespace Go.Proofs.YtlaipigilikmbaaGreatDoor
noncomputable section
set_option linter.unusedVariables false
set_option linter.unusedSimpArgs false
namespace Ph
open Conc Co Cl
theorem dQ0:dQ #[]:=fun e he=>by simp at he
theorem dT0:dT #[]:=trivial
section
variable {C:Cfg}{LoopA LoadA:Goroutine→World→Prop}{SpA:Nat→Bl→Goroutine→World→Prop}{RecA Fin:List Nat→Bl→Bl→Goroutine→World→Prop}{c:Frame}{cs:List Frame}
theorem neg_sem(hq:∃ q,QuitsD Tryz.prog q 0 (G (c.finish (.tuple #[])) cs))(w:World):SSem (mk0 C LoopA LoadA SpA RecA Fin) noB (an11 C.bw c cs) w:=by
 refine⟨by kernel_rfl,an11_wake _ _ _,fun hw=>?_⟩;have hw:w.heap[C.bw]? = some (wgObj 0 0):=hw;have h:=step_semrelease (main:=false) (an11_at C.bw c cs) e_semrelease (an11_x C.bw c cs) (wg_sm hw) (wg_fz hw 1);rw[show IntKind.u32.wrap (0+1)=1 by decide,wg_setm hw]at h;refine⟨_,_,h,rfl,?_⟩;obtain⟨q,hq⟩:=hq;refine⟨_,QuitsD.calms 17 (an12_calm C.bw c cs) (.said (mk .enable) (by decide) (by kernel_rfl) (an13_step C.bw c cs) (.ctl (by kernel_rfl) (an14_step C.bw c cs) hq))⟩
theorem neg_store(hq:∃ q,QuitsD Tryz.prog q 0 (G (c.finish (.tuple #[])) cs))(w:World):SStore (mk0 C LoopA LoadA SpA RecA Fin) noB (an9 C.bw c cs) w:=by
 refine⟨by kernel_rfl,fun hw=>?_⟩;have hw:w.heap[C.bw]? = some (wgObj 1 0):=hw;have h:=step_store (main:=false) (an9_at C.bw c cs) e_storeU64 (an9_x C.bw c cs).1 (an9_x C.bw c cs).2 (wg_st hw) (wg_fz hw 0);rw[wg_set hw]at h;exact⟨_,_,h,evS1,Gl.calms dQ0 27 (an10_calm C.bw c cs) (.stop fun w₁ _=>neg_sem hq w₁)⟩
theorem neg_load(hq:∃ q,QuitsD Tryz.prog q 0 (G (c.finish (.tuple #[])) cs))(w:World):SLoad (mk0 C LoopA LoadA SpA RecA Fin) noB (an7 C.bw c cs) w:=by
 refine⟨by kernel_rfl,fun hw=>?_⟩;have hw:w.heap[C.bw]? = some (wgObj 1 0):=hw;have h:=oh (main:=false) (an7_at C.bw c cs) nS (an7_x C.bw c cs) (wg_st hw);exact⟨_,_,h,evS1,Gl.calms dQ0 20 (an8_calm C.bw c cs) (.stop fun w₁ _=>neg_store hq w₁)⟩
theorem neg_wrap(v wt:Nat)(hv:v<10)(hwt:wt≤1):IntKind.u64.wrap (((v:Int)+1)*KK+wt+18446744069414584320)=v*KK+wt:=by
 rw[IntKind.wrap_u64];unfold KK;omega
theorem neg_dec(hq:∃ q,QuitsD Tryz.prog q 0 (G (c.finish (.tuple #[])) cs))(w:World):SDec (mk0 C LoopA LoadA SpA RecA Fin) noB (an5 C.bw c cs) w:=by
 refine⟨by kernel_rfl,fun v wt hwt hv hw=>?_⟩;have hw:w.heap[C.bw]? = some (wgObj (((v:Int)+1)*KK+wt) 0):=hw;have h:=step_add (main:=false) (an5_at C.bw c cs) e_addU64 (an5_x C.bw c cs).1 (an5_x C.bw c cs).2 (wg_st hw) (wg_fz hw 0);rw[neg_wrap v wt hv hwt,wg_set hw]at h;refine⟨_,_,h,evS2,fun hl=>?_,fun hl=>?_⟩
 ·obtain⟨rfl,rfl⟩:=hl;exact Gl.calms dQ0 103 (an6_calm1 C.bw c cs) (.stop fun w₁ _=>neg_load hq w₁)
 ·obtain⟨q,hq⟩:=hq;obtain⟨k1,k2,k3,k4,k5⟩:=anq hv hwt hl C.bw c cs;exact⟨_,QuitsD.calms 87 k1 (.said (mk .enable) (by decide) k2 k3 (.ctl k4 k5 hq))⟩
theorem neg_dis(hq:∃ q,QuitsD Tryz.prog q 0 (G (c.finish (.tuple #[])) cs))(w:World):SDis (mk0 C LoopA LoadA SpA RecA Fin) noB (an3 C.bw c cs) w:=by
 refine⟨by kernel_rfl,_,jv .disable (by simp) (an3_at C.bw c cs) nU,?_⟩;exact Gl.calms dQ0 34 (an4_calm C.bw c cs) (.stop fun w₁ _=>neg_dec hq w₁)
theorem neg_rel(hq:∃ q,QuitsD Tryz.prog q 0 (G (c.finish (.tuple #[])) cs))(w:World):SRel (mk0 C LoopA LoadA SpA RecA Fin) noB (an1 C.bw c cs) w:=by
 refine⟨by kernel_rfl,_,iK .releaseMerge (by simp) (an1_at C.bw c cs) e_relMerge (an1_x C.bw c cs),?_⟩;exact Gl.calms dQ0 3 (an2_calm C.bw c cs) (.stop fun w₁ _=>neg_dis hq w₁)
theorem neg_all(hq:∃ q,QuitsD Tryz.prog q 0 (G (c.finish (.tuple #[])) cs))(w:World):Gl (mk0 C LoopA LoadA SpA RecA Fin) false dT (SRel (mk0 C LoopA LoadA SpA RecA Fin)) noB (an C.bw c cs) w:=by
 refine Gl.calms dT0 11 (an0_calm C.bw c cs) (Gl.conv dT0 (an0_at C.bw c cs) (by kernel_rfl) (an0_op C.bw c cs) (an0_x C.bw c cs) (t:=118) (by kernel_rfl) (by kernel_rfl) (by kernel_rfl) ?_ (.stop fun w₁ _=>neg_rel hq w₁));rintro w₁ ⟨_,⟨st,sm,hw⟩,_⟩;have hw:w₁.heap[C.bw]? = some (wgObj st sm):=hw;exact⟨_,wg_st hw⟩
end
end Ph
