/- Texts of this seat,put together: WkStates,WkStatesL,WkStatesW,WkNwS. -/
import Derived.Test.YtlaipigilikmbaaGreatDoorMb25
import Derived.Test.YtlaipigilikmbaaGreatDoorMb28
import Derived.Test.YtlaipigilikmbaaGreatDoorMb29
set_option linter.unusedVariables false
set_option linter.unusedSimpArgs false
namespace Go.Proofs.YtlaipigilikmbaaGreatDoor.Ph
open Go Go.Conc Go.Proofs.YtlaipigilikmbaaGreatDoor.Co Go.Proofs.YtlaipigilikmbaaGreatDoor.Cl Go.Proofs
section
variable (A:Option Addr) (L cp n:Nat) (c:Frame) (cs:List Frame)
noncomputable def ss0:Goroutine:=G (Frame.enter Tryz.prog 15 #[.slice A L cp,.int .i64 n] .normal) (c :: cs)
noncomputable def ssA:Goroutine:=fin (it Tryz.prog 19 (ss0 A L cp n c cs)) (.bool false)
noncomputable def ssB:Goroutine:=fin (it Tryz.prog 2 (ssA A L cp n c cs)) (.bool false)
noncomputable def ssC:Goroutine:=fin (it Tryz.prog 9 (ssB A L cp n c cs)) (.bool false)
noncomputable def ssD:Goroutine:=it Tryz.prog 22 (ssC A L cp n c cs)
variable (bu:Nat)
noncomputable def ssE:Goroutine:=it Tryz.prog 7 (fin (ssD A L cp n c cs) (.slice (some (adr bu)) L L))
noncomputable def ssF:Frame:=(ssE A L cp n c cs bu).frame
theorem ss0_calm:Calms Tryz.prog true 20 (ss0 A L cp n c cs):=by
  iterate 20 refine ⟨by kernel_rfl,fun _=>by kernel_rfl, ?_⟩
  trivial
theorem ss0_it:it Tryz.prog 20 (ss0 A L cp n c cs) = fin (it Tryz.prog 19 (ss0 A L cp n c cs)) (.bool (decide ((n:Int) < 1))):=by kernel_rfl
theorem ssA_calm:Calms Tryz.prog true 3 (ssA A L cp n c cs):=by
  iterate 3 refine ⟨by kernel_rfl,fun _=>by kernel_rfl, ?_⟩
  trivial
theorem ssA_it:it Tryz.prog 3 (ssA A L cp n c cs) = fin (it Tryz.prog 2 (ssA A L cp n c cs)) (.bool (decide ((8:Int) < (n:Int)))):=by kernel_rfl
theorem ssB_calm:Calms Tryz.prog true 10 (ssB A L cp n c cs):=by
  iterate 10 refine ⟨by kernel_rfl,fun _=>by kernel_rfl, ?_⟩
  trivial
theorem ssB_it:it Tryz.prog 10 (ssB A L cp n c cs) = fin (it Tryz.prog 9 (ssB A L cp n c cs)) (.bool (decide ((4096:Int) < (L:Int)))):=by kernel_rfl
theorem ssC_calm:Calms Tryz.prog true 22 (ssC A L cp n c cs):=by
  iterate 22 refine ⟨by kernel_rfl,fun _=>by kernel_rfl, ?_⟩
  trivial
theorem ssD_at:AtO (ssD A L cp n c cs) (oOf (ssD A L cp n c cs)):=⟨by unfold AtOp; kernel_rfl,by kernel_rfl,by kernel_rfl,by rw [show (Goroutine.frame (ssD A L cp n c cs)).kind = .normal by kernel_rfl]; simp⟩
theorem ssD_calm:Calms Tryz.prog true 8 (fin (ssD A L cp n c cs) (.slice (some (adr bu)) L L)):=by
  iterate 8 refine ⟨by kernel_rfl,fun _=>by kernel_rfl, ?_⟩
  trivial
theorem ssD_it:it Tryz.prog 8 (fin (ssD A L cp n c cs) (.slice (some (adr bu)) L L)) = lk0 A L cp n (ssF A L cp n c cs bu) (c :: cs):=by kernel_rfl
variable (bc:Nat)
noncomputable def ssR0:Goroutine:=it Tryz.prog 5 (G (Frame.finish (ssF A L cp n c cs bu) (.chan (some bc))) (c :: cs))
theorem ssF_calm:Calms Tryz.prog true 5 (G (Frame.finish (ssF A L cp n c cs bu) (.chan (some bc))) (c :: cs)):=by
  iterate 5 refine ⟨by kernel_rfl,fun _=>by kernel_rfl, ?_⟩
  trivial
end
def Ts (A:Option Addr) (L cp n bu bc:Nat) (f:Nat→Value):Array Value:=#[.slice A L cp,.int .i64 n,f 2,f 3,f 4,f 5,f 6,.slice (some (adr bu)) L L,f 8,f 9,f 10,f 11,f 12,f 13,f 14,f 15,f 16,f 17,f 18,f 19,.chan (some bc),f 21,f 22,f 23,f 24,f 25,f 26,f 27,f 28,f 29,f 30]
section
variable (A:Option Addr) (L cp n:Nat) (c:Frame) (cs:List Frame) (bu bc:Nat) (f:Nat→Value)
noncomputable def ssR:Goroutine:={ ssR0 A L cp n c cs bu bc with frame:={ (ssR0 A L cp n c cs bu bc).frame with tmps:=Ts A L cp n bu bc f } }
theorem ssF_it:it Tryz.prog 5 (G (Frame.finish (ssF A L cp n c cs bu) (.chan (some bc))) (c :: cs)) = ssR A L cp n c cs bu bc (fun i=>(ssR0 A L cp n c cs bu bc).frame.tmps.getD i undef):=by kernel_rfl
theorem ssR_run:Goroutine.status (ssR A L cp n c cs bu bc f) = .running:=by kernel_rfl
theorem ssR_recv (w:World):stepG Tryz.prog true (ssR A L cp n c cs bu bc f) w = .comm (Conc.core (ssR A L cp n c cs bu bc f)) #[rcase bc zSeen] true (.recv true) w #[]:=by kernel_rfl
variable (k:Nat) (a1 a2 a3 a4:Int) (sl:Value)
noncomputable def ssV:Goroutine:=Conc.served (Conc.core (ssR A L cp n c cs bu bc f)) (.tuple #[.agg (sv6 k a1 a2 a3 a4 sl),.bool true])
theorem ssV_calm:Calms Tryz.prog true 9 ((ssV A L cp n c cs bu bc f k a1 a2 a3 a4 sl)):=by
  iterate 9 refine ⟨by kernel_rfl,fun _=>by kernel_rfl, ?_⟩
  trivial
noncomputable def ssX:Goroutine:=it Tryz.prog 9 (ssV A L cp n c cs bu bc f k a1 a2 a3 a4 sl)
theorem ssX_at:AtO ((ssX A L cp n c cs bu bc f k a1 a2 a3 a4 sl)) (oOf ((ssX A L cp n c cs bu bc f k a1 a2 a3 a4 sl))):=⟨by unfold AtOp; kernel_rfl,by kernel_rfl,by kernel_rfl,by rw [show (Goroutine.frame ((ssX A L cp n c cs bu bc f k a1 a2 a3 a4 sl))).kind = .normal by kernel_rfl]; simp⟩
variable (b8:Nat)
noncomputable def ssY:Goroutine:=fin (ssX A L cp n c cs bu bc f k a1 a2 a3 a4 sl) (pw b8)
theorem ssY_at:AtO ((ssY A L cp n c cs bu bc f k a1 a2 a3 a4 sl b8)) (oOf ((ssY A L cp n c cs bu bc f k a1 a2 a3 a4 sl b8))):=⟨by unfold AtOp; kernel_rfl,by kernel_rfl,by kernel_rfl,by rw [show (Goroutine.frame ((ssY A L cp n c cs bu bc f k a1 a2 a3 a4 sl b8))).kind = .normal by kernel_rfl]; simp⟩
theorem ssY_calm:Calms Tryz.prog true 4 (fin (ssY A L cp n c cs bu bc f k a1 a2 a3 a4 sl b8) undef):=by
  iterate 4 refine ⟨by kernel_rfl,fun _=>by kernel_rfl, ?_⟩
  trivial
noncomputable def ssZ:Goroutine:=it Tryz.prog 4 (fin (ssY A L cp n c cs bu bc f k a1 a2 a3 a4 sl b8) undef)
theorem ssZ_at:AtO ((ssZ A L cp n c cs bu bc f k a1 a2 a3 a4 sl b8)) (oOf ((ssZ A L cp n c cs bu bc f k a1 a2 a3 a4 sl b8))):=⟨by unfold AtOp; kernel_rfl,by kernel_rfl,by kernel_rfl,by rw [show (Goroutine.frame ((ssZ A L cp n c cs bu bc f k a1 a2 a3 a4 sl b8))).kind = .normal by kernel_rfl]; simp⟩
noncomputable def ssZ2:Goroutine:=it Tryz.prog 1 (fin (ssZ A L cp n c cs bu bc f k a1 a2 a3 a4 sl b8) (.int .i64 k))
theorem ssZ_calm:Calms Tryz.prog true 1 (fin (ssZ A L cp n c cs bu bc f k a1 a2 a3 a4 sl b8) (.int .i64 k)):=by
  iterate 1 refine ⟨by kernel_rfl,fun _=>by kernel_rfl, ?_⟩
  trivial
theorem ssZ2_at:AtO ((ssZ2 A L cp n c cs bu bc f k a1 a2 a3 a4 sl b8)) (oOf ((ssZ2 A L cp n c cs bu bc f k a1 a2 a3 a4 sl b8))):=⟨by unfold AtOp; kernel_rfl,by kernel_rfl,by kernel_rfl,by rw [show (Goroutine.frame ((ssZ2 A L cp n c cs bu bc f k a1 a2 a3 a4 sl b8))).kind = .normal by kernel_rfl]; simp⟩
noncomputable def ssI:Goroutine:=fin (ssZ2 A L cp n c cs bu bc f k a1 a2 a3 a4 sl b8) (.int .i64 a4)
theorem ssI_at:AtO ((ssI A L cp n c cs bu bc f k a1 a2 a3 a4 sl b8)) (oOf ((ssI A L cp n c cs bu bc f k a1 a2 a3 a4 sl b8))):=⟨by unfold AtOp; kernel_rfl,by kernel_rfl,by kernel_rfl,by rw [show (Goroutine.frame ((ssI A L cp n c cs bu bc f k a1 a2 a3 a4 sl b8))).kind = .normal by kernel_rfl]; simp⟩
theorem ssI_op:execOp (aOf (ssI A L cp n c cs bu bc f k a1 a2 a3 a4 sl b8)).eval (oOf (ssI A L cp n c cs bu bc f k a1 a2 a3 a4 sl b8)) = (do Pure.pure (Next.value (← Instr.indexAt 23 (.slice (some (adr bu)) L L) (.int .i64 (k:Int))))):=by kernel_rfl
noncomputable def ssJ:Goroutine:=fin (ssI A L cp n c cs bu bc f k a1 a2 a3 a4 sl b8) (.pointer (some ⟨bu,0 + k * 1,none⟩))
theorem ssJ_at:AtO ((ssJ A L cp n c cs bu bc f k a1 a2 a3 a4 sl b8)) (oOf ((ssJ A L cp n c cs bu bc f k a1 a2 a3 a4 sl b8))):=⟨by unfold AtOp; kernel_rfl,by kernel_rfl,by kernel_rfl,by rw [show (Goroutine.frame ((ssJ A L cp n c cs bu bc f k a1 a2 a3 a4 sl b8))).kind = .normal by kernel_rfl]; simp⟩
theorem ssJ_calm:Calms Tryz.prog true 5 (fin (ssJ A L cp n c cs bu bc f k a1 a2 a3 a4 sl b8) undef):=by
  iterate 5 refine ⟨by kernel_rfl,fun _=>by kernel_rfl, ?_⟩
  trivial
theorem ssJ_it:it Tryz.prog 5 (fin (ssJ A L cp n c cs bu bc f k a1 a2 a3 a4 sl b8) undef) = ssR A L cp n c cs bu bc (fun i=>(it Tryz.prog 5 (fin (ssJ A L cp n c cs bu bc f k a1 a2 a3 a4 sl b8) undef)).frame.tmps.getD i undef):=by kernel_rfl
noncomputable def ssW:Goroutine:=Conc.served (Conc.core (ssR A L cp n c cs bu bc f)) (.tuple #[zSeen,.bool false])
theorem ssW_calm:Calms Tryz.prog true 13 ((ssW A L cp n c cs bu bc f)):=by
  iterate 13 refine ⟨by kernel_rfl,fun _=>by kernel_rfl, ?_⟩
  trivial
theorem ssW_it:it Tryz.prog 13 (ssW A L cp n c cs bu bc f) = G (c.finish (.tuple #[.slice (some (adr bu)) L L,.nilIface])) cs:=by kernel_rfl
end
end Go.Proofs.YtlaipigilikmbaaGreatDoor.Ph

namespace Go.Proofs.YtlaipigilikmbaaGreatDoor.Ph
open Go Go.Conc Go.Proofs.YtlaipigilikmbaaGreatDoor.Co Go.Proofs.YtlaipigilikmbaaGreatDoor.Cl Go.Proofs
def sHold (C:Cfg) (bu:Nat) (R:List Nat) (w:World):Prop:=∃ vals:Array Value,w.heap[bu]? = some (.cells vals 3 (0,0))∧vals.size = C.L∧(∀ k ∈ R,k < C.L→vals[k]? = some (.int .i64 (opn (C.pg k)).2.2.2))∧∀ k,k < C.L→∃ x,vals[k]? = some (.int .i64 x)
section
variable (C:Cfg) (c:Frame) (cs:List Frame) (bu:Nat)
noncomputable def ssFC:Frame:=ssF C.Ap C.L C.cp C.n c cs bu
noncomputable def ssRC (f:Nat→Value):Goroutine:=ssR C.Ap C.L C.cp C.n c cs bu C.bc f
noncomputable def ssVC (f:Nat→Value) (k:Nat) (sl:Value):Goroutine:=ssV C.Ap C.L C.cp C.n c cs bu C.bc f k (opn (C.pg k)).1 (opn (C.pg k)).2.1 (opn (C.pg k)).2.2.1 (opn (C.pg k)).2.2.2 sl
noncomputable def ssWC (f:Nat→Value):Goroutine:=ssW C.Ap C.L C.cp C.n c cs bu C.bc f
def sRec (R:List Nat) (_ own:Bl) (g:Goroutine) (w:World):Prop :=
  RoOk C w∧own bu∧((R = []∧sHold C bu [] w∧∃ f,g = lkUC C (ssFC C c cs bu) (c :: cs) f) ∨ ∃ k R' A m cc f,R = k :: R'∧k < C.L∧sHold C bu R' w∧g = ssVC C c cs bu f k (.slice A m cc))
def sFin (R:List Nat) (_ own:Bl) (g:Goroutine) (w:World):Prop:=RoOk C w∧own bu∧sHold C bu R w∧∃ f,g = ssWC C c cs bu f
noncomputable def sX (ob:Obj):Cx:=mk0 C (loopA C) (loadA C) (spA C (ssFC C c cs bu) (c :: cs) bu ob) (sRec C c cs bu) (sFin C c cs bu)
end
section
variable {C:Cfg} {c:Frame} {cs:List Frame} {bu:Nat} {ob:Obj} {own:Bl} {w:World}
theorem sHold.rely {R:List Nat} (h:sHold C bu R w) {w₁:World} (ho:own bu) (hr:RR (sX C c cs bu ob) own w w₁):sHold C bu R w₁:=by
  obtain ⟨vals,h1,h2⟩:=h
  exact ⟨vals,(hr.rel.keep bu (.inl ho) (Array.getElem?_eq_some_iff.1 h1).1).trans h1,h2⟩
theorem s_at {R:List Nat} {dt:Bl} (hr:RoOk C w) (ho:own bu) (hh:sHold C bu R w) (f:Nat→Value):MRecv (sX C c cs bu ob) R dt own (ssRC C c cs bu f) w:=by
  refine ⟨ssR_run C.Ap C.L C.cp C.n c cs bu C.bc f,zSeen,ssR_recv C.Ap C.L C.cp C.n c cs bu C.bc f w,fun k v D w₁ h₁ hp hk=>?_,fun w₁ h₁=>⟨hr.rely h₁,ho,hh.rely ho h₁,f,rfl⟩⟩
  obtain ⟨-,A,m,cc,rfl⟩:=hp
  exact ⟨hr.rely h₁,ho,.inr ⟨k,R,A,m,cc,f,rfl,hk,hh.rely ho h₁,rfl⟩⟩
theorem s_recv (hC:CfgOk2 C) (hnru:¬ C.ro bu) {R:List Nat} {dt:Bl} {g:Goroutine} (h:sRec C c cs bu R dt own g w):Gl (sX C c cs bu ob) true dT (MRecv (sX C c cs bu ob) R dt) own g w:=by
  unfold sRec at h
  obtain ⟨hr,ho,hcase⟩:=h
  rcases hcase with ⟨eR,hh,f,eg⟩ | ⟨k,R',A,m,cc,f,eR,hk,hh,eg⟩
  · rw [eR,eg]
    refine rc_begin hC hr f ?_
    refine Gl.calms dT0 5 (ssF_calm C.Ap C.L C.cp C.n c cs bu C.bc) ?_
    show Gl (sX C c cs bu ob) true dT _ _ (it Tryz.prog 5 (G ((ssF C.Ap C.L C.cp C.n c cs bu).finish (.chan (some C.bc))) (c :: cs))) w
    rw [ssF_it]
    exact .stop fun w₁ h₁=>s_at (hr.rely h₁) ho (hh.rely ho h₁) _
  · rw [eR,eg]
    refine Gl.calms dT0 9 (ssV_calm C.Ap C.L C.cp C.n c cs bu C.bc f k _ _ _ _ _) ?_
    refine Gl.alloc (X:=sX C c cs bu ob) (ob:=.cells z6 85 (0,0)) (ssX_at C.Ap C.L C.cp C.n c cs bu C.bc f k _ _ _ _ _) (by kernel_rfl) (fun w₂=>by kernel_rfl) ?_
    intro w₂ h₂ _
    have hr2:RoOk C { w₂ with heap:=w₂.heap.push (.cells z6 85 (0,0)) }:=(hr.rely h₂).push
    obtain ⟨vals,v1,v2,v3,v4⟩:=hh.rely ho h₂
    have hlt:bu < w₂.heap.size:=(Array.getElem?_eq_some_iff.1 v1).1
    have hne:w₂.heap.size ≠ bu:=by omega
    have hb2:({ w₂ with heap:=w₂.heap.push (.cells z6 85 (0,0)) }:World).heap[bu]? = some (.cells vals 3 (0,0)):=by
      simp only [Array.getElem?_push]
      rw [if_neg (Ne.symm hne)]
      exact v1
    generalize hb8:w₂.heap.size = b8 at *
    have hnr:¬ C.ro b8:=fun h=>absurd ((hr.rely h₂).lt _ h) (by omega)
    have hrow2:({ w₂ with heap:=w₂.heap.push (.cells z6 85 (0,0)) }:World).heap[b8]? = some (.cells z6 85 (0,0)):=by rw [← hb8]; simp
    generalize ({ w₂ with heap:=w₂.heap.push (.cells z6 85 (0,0)) }:World) = wa at *
    refine Gl.store (X:=sX C c cs bu ob) (ty:=85) (t:=85) (b:=b8) (old:=z6) (new:=sv6 k (opn (C.pg k)).1 (opn (C.pg k)).2.1 (opn (C.pg k)).2.2.1 (opn (C.pg k)).2.2.2 (.slice A m cc)) (ssY_at C.Ap C.L C.cp C.n c cs bu C.bc f k _ _ _ _ _ b8) (by kernel_rfl) (x:=.tmp 8) (y:=.tmp 23) (by kernel_rfl) (by kernel_rfl) (by kernel_rfl) hrow2 (.inr rfl) (by kernel_rfl) rfl (by kernel_rfl) ?_
    intro w₃ h₃ _
    have hb3:w₃.heap[b8]? = some (.cells z6 85 (0,0)):=(h₃.rel.keep _ (.inl (.inr rfl)) (Array.getElem?_eq_some_iff.1 hrow2).1).trans hrow2
    have hu3:w₃.heap[bu]? = some (.cells vals 3 (0,0)):=(h₃.rel.keep _ (.inl (.inl ho)) (Array.getElem?_eq_some_iff.1 hb2).1).trans hb2
    have hr3:RoOk C (w₃.setRow b8 (sv6 k (opn (C.pg k)).1 (opn (C.pg k)).2.1 (opn (C.pg k)).2.2.1 (opn (C.pg k)).2.2.2 (.slice A m cc))):=(hr2.rely h₃).setRow hnr
    have hb4:=setRow_heap w₃ b8 z6 (sv6 k (opn (C.pg k)).1 (opn (C.pg k)).2.1 (opn (C.pg k)).2.2.1 (opn (C.pg k)).2.2.2 (.slice A m cc)) _ _ hb3
    have hu4:(w₃.setRow b8 (sv6 k (opn (C.pg k)).1 (opn (C.pg k)).2.1 (opn (C.pg k)).2.2.1 (opn (C.pg k)).2.2.2 (.slice A m cc))).heap[bu]? = some (.cells vals 3 (0,0)):=by
      simp only [World.setRow,Array.getElem?_modify]
      rw [if_neg hne]
      exact hu3
    generalize (w₃.setRow b8 (sv6 k (opn (C.pg k)).1 (opn (C.pg k)).2.1 (opn (C.pg k)).2.2.1 (opn (C.pg k)).2.2.2 (.slice A m cc))) = wb at *
    refine Gl.calms dT0 4 (ssY_calm C.Ap C.L C.cp C.n c cs bu C.bc f k _ _ _ _ _ b8) ?_
    refine Gl.load (X:=sX C c cs bu ob) (a:=⟨b8,0,none⟩) (v:=.int .i64 k) (ssZ_at C.Ap C.L C.cp C.n c cs bu C.bc f k _ _ _ _ _ b8) (by kernel_rfl) (fun w₁=>by kernel_rfl) (cell_stands (by simp [World.cell?,hb4,sv6]) (.inl (.inr rfl))) (.inl (.inr rfl)) ?_
    refine Gl.calms dT0 1 (ssZ_calm C.Ap C.L C.cp C.n c cs bu C.bc f k _ _ _ _ _ b8) ?_
    refine Gl.load (X:=sX C c cs bu ob) (a:=⟨b8,5,none⟩) (v:=.int .i64 (opn (C.pg k)).2.2.2) (ssZ2_at C.Ap C.L C.cp C.n c cs bu C.bc f k _ _ _ _ _ b8) (by kernel_rfl) (fun w₁=>by kernel_rfl) (cell_stands (by simp [World.cell?,hb4,sv6]) (.inl (.inr rfl))) (.inl (.inr rfl)) ?_
    refine Gl.quiet (X:=sX C c cs bu ob) (v:=.pointer (some ⟨bu,0 + k * 1,none⟩)) dT0 (ssI_at C.Ap C.L C.cp C.n c cs bu C.bc f k _ _ _ _ _ b8) (by kernel_rfl) ?_ ?_
    · have hq:Qt Tryz.prog (execOp (aOf (ssI C.Ap C.L C.cp C.n c cs bu C.bc f k (opn (C.pg k)).1 (opn (C.pg k)).2.1 (opn (C.pg k)).2.2.1 (opn (C.pg k)).2.2.2 (.slice A m cc) b8)).eval (oOf (ssI C.Ap C.L C.cp C.n c cs bu C.bc f k (opn (C.pg k)).1 (opn (C.pg k)).2.1 (opn (C.pg k)).2.2.1 (opn (C.pg k)).2.2.2 (.slice A m cc) b8))) (.value (.pointer (some ⟨bu,0 + k * 1,none⟩))):=by
        rw [ssI_op]
        exact (qt_indexAt (P:=Tryz.prog) (e:=3) (by kernel_rfl) (by kernel_rfl) hk).bind (.pure _)
      exact hq
    refine Gl.store1 (X:=sX C c cs bu ob) (ty:=3) (t:=3) (b:=bu) (off:=0 + k * 1) (cur:=vals) (k:=.i64) (n:=(opn (C.pg k)).2.2.2) (ssJ_at C.Ap C.L C.cp C.n c cs bu C.bc f k _ _ _ _ _ b8) (by kernel_rfl) (x:=.tmp 29) (y:=.tmp 28) (by kernel_rfl) (by kernel_rfl) (by kernel_rfl) hu4 (.inl ho) (by kernel_rfl) (by omega) ?_
    intro w₅ h₅ _
    have hu5:w₅.heap[bu]? = some (.cells vals 3 (0,0)):=(h₅.rel.keep _ (.inl (.inl ho)) (Array.getElem?_eq_some_iff.1 hu4).1).trans hu4
    have hr5:RoOk C (w₅.setRow bu (vals.setIfInBounds (0 + k * 1) (.int .i64 (opn (C.pg k)).2.2.2))):=(hr3.rely h₅).setRow hnru
    have hu6:=setRow_heap w₅ bu vals (vals.setIfInBounds (0 + k * 1) (.int .i64 (opn (C.pg k)).2.2.2)) _ _ hu5
    refine Gl.calms dT0 5 (ssJ_calm C.Ap C.L C.cp C.n c cs bu C.bc f k (opn (C.pg k)).1 (opn (C.pg k)).2.1 (opn (C.pg k)).2.2.1 (opn (C.pg k)).2.2.2 (.slice A m cc) b8) ?_
    show Gl (sX C c cs bu ob) true dT _ _ (it Tryz.prog 5 (fin (ssJ C.Ap C.L C.cp C.n c cs bu C.bc f k (opn (C.pg k)).1 (opn (C.pg k)).2.1 (opn (C.pg k)).2.2.1 (opn (C.pg k)).2.2.2 (.slice A m cc) b8) undef)) _
    rw [ssJ_it]
    have hh5:sHold C bu (k :: R') (w₅.setRow bu (vals.setIfInBounds (0 + k * 1) (.int .i64 (opn (C.pg k)).2.2.2))):=by
      refine ⟨_,hu6,by simpa using v2,fun j hj hjl=>?_,fun j hjl=>?_⟩
      · rw [Array.getElem?_setIfInBounds]
        by_cases e:0 + k * 1 = j
        · rw [if_pos e,if_pos (by omega),show j = k by omega]
        · rw [if_neg e]
          rcases List.mem_cons.1 hj with h | h
          · omega
          · exact v3 j h hjl
      · rw [Array.getElem?_setIfInBounds]
        by_cases e:0 + k * 1 = j
        · rw [if_pos e,if_pos (by omega)]
          exact ⟨_,rfl⟩
        · rw [if_neg e]
          exact v4 j hjl
    exact .stop fun w₆ h₆=>s_at (hr5.rely h₆) (.inl ho) (hh5.rely (.inl ho) h₆) _
theorem s_walks (hC:CfgOk2 C) (hnru:¬ C.ro bu) (hb:bu ≠ C.bw) (hn:C.n < 9223372036854775807) (hob:ob = .cells (Array.replicate C.L (.int .i64 0)) 3 (0,0)):Walks (sX C c cs bu ob) where
  loop:=w_loop hC
  load:=cl_loop hC
  sp:=fun i own g w hi h=>sp_walk hC hb hn i own g w hi h
  spn:=fun own g w h=>sp_last hC hb (fun w f hk=>⟨hk.ro,rfl,.inl ⟨rfl,⟨_,hk.at_.trans (congrArg some hob),by simp,fun k hk=>(by cases hk),fun k hk=>⟨0,by simp [hk]⟩⟩,f,rfl⟩⟩) own g w h
  recv:=fun R dt own g w h _=>s_recv hC hnru h
end
end Go.Proofs.YtlaipigilikmbaaGreatDoor.Ph

namespace Go.Proofs.YtlaipigilikmbaaGreatDoor.Ph
open Go Go.Conc Go.Proofs.YtlaipigilikmbaaGreatDoor.Co Go.Proofs.YtlaipigilikmbaaGreatDoor.Cl Go.Proofs
section
variable (A:Option Addr) (L cp n:Nat) (c:Frame) (cs:List Frame)
theorem ssD_op:execOp (aOf (ssD A L cp n c cs)).eval (oOf (ssD A L cp n c cs)) = (do Pure.pure (Next.value (← Instr.makeSlice 23 (.int .i64 L) (.int .i64 L)))):=by kernel_rfl
def wOut (w:World):World:={ w with heap:=w.heap.push (.cells (Array.replicate L (.int .i64 0)) 3 (0,0)) }
theorem ssD_run (hL:L ≤ 4096) (w:World):(execOp (aOf (ssD A L cp n c cs)).eval (oOf (ssD A L cp n c cs))).runT Tryz.prog w #[] = (.ok (.value (.slice (some (adr w.heap.size)) L L)) (wOut L w),#[]):=by
  rw [ssD_op]
  have h1:=make_ints_run L hL w
  have h2:=make_ints_ev L hL w
  refine Prod.ext ?_ ?_
  · rw [Sem.runT_fst,Sem.run_bind,h1,Result.andThen_ok]
    rfl
  · show ((Instr.makeSlice 23 (.int .i64 L) (.int .i64 L)) >>= fun v=>Pure.pure (Next.value v)).events Tryz.prog w #[] = #[]
    rw [Sem.events_bind,h1,Result.evThen_ok,h2]
    rfl
end
section
variable {Q:Value→World→Prop} {w:World} {A:Option Addr} {L cp n:Nat} {pv:Nat→Value} {pg:Nat→List UInt8} {Z Z':Bl} {c:Frame} {cs:List Frame}
theorem states_wins (h:Args w A L pv pg (fun b=>b < w.heap.size∧¬ Z b) Z) (hn1:1 ≤ n) (hn:n ≤ 8) (hL:L ≤ 4096) (hZ:∀ b,Z b→Z' b) (hZ2:Z' (w.heap.size + 2)) (hZ4:Z' (w.heap.size + 4)) (hZ5:Z' (w.heap.size + 5))
    (hk:∀ vals w',vals.size = L→(∀ k,k < L→vals[k]? = some (.int .i64 (opn (pg k)).2.2.2))→w'.heap[w.heap.size]? = some (.cells vals 3 (0,0))→(∀ b,b < w.heap.size→¬ Z b→w'.heap[b]? = w.heap[b]?)→w.heap.size + 6 ≤ w'.heap.size→w'.os = w.os∧w'.output = w.output →
      Wins Tryz.prog Q Z' (G (c.finish (.tuple #[.slice (some (adr w.heap.size)) L L,.nilIface])) cs) w'):Wins Tryz.prog Q Z (ss0 A L cp n c cs) w:=by
  refine wins_calms 20 (ss0_calm A L cp n c cs) ?_
  rw [ss0_it,show decide ((n:Int) < 1) = false from decide_eq_false (by omega)]
  refine wins_calms 3 (ssA_calm A L cp n c cs) ?_
  show Wins Tryz.prog Q Z (it Tryz.prog 3 (ssA A L cp n c cs)) w
  rw [ssA_it,show decide ((8:Int) < (n:Int)) = false from decide_eq_false (by omega)]
  refine wins_calms 10 (ssB_calm A L cp n c cs) ?_
  show Wins Tryz.prog Q Z (it Tryz.prog 10 (ssB A L cp n c cs)) w
  rw [ssB_it,show decide ((4096:Int) < (L:Int)) = false from decide_eq_false (by omega)]
  refine wins_calms 22 (ssC_calm A L cp n c cs) ?_
  have key:Wins Tryz.prog Q Z (fin (ssD A L cp n c cs) (.slice (some (adr w.heap.size)) L L)) (wOut L w):=by
    refine wins_calms 8 (ssD_calm A L cp n c cs w.heap.size) ?_
    rw [ssD_it]
    have hs:(wOut L w).heap.size = w.heap.size + 1:=by simp [wOut]
    have hat:(wOut L w).heap[w.heap.size]? = some (.cells (Array.replicate L (.int .i64 0)) 3 (0,0)):=by
      show (w.heap.push _)[w.heap.size]? = _
      rw [Array.getElem?_push,if_pos rfl]
    refine look_wins (RecA:=fun C=>sRec C c cs w.heap.size) (Fin:=fun C=>sFin C c cs w.heap.size) (Args.push h) hn1 hn hL hat (fun e=>by omega) (fun e=>by have:=h.zlt _ e; omega) hZ (by rw [hs]; exact hZ2) (by rw [hs]; exact hZ4) (by rw [hs]; exact hZ5) (fun τ d n0 cl=>?_) (fun τ d n0 cl=>?_)
    · refine s_walks (C:=cfgOf (wOut L w) A L cp n pv pg (fun b=>b < w.heap.size∧¬ Z b) Z τ d n0 cl) (c:=c) (cs:=cs) (bu:=w.heap.size) (cfg_ok (Args.push h)) (fun e=>?_) ?_ ?_ rfl
      · rcases e with e | e | e
        · omega
        · omega
        · omega
      · show w.heap.size ≠ (wOut L w).heap.size + 4
        omega
      · show n < 9223372036854775807
        omega
    · intro R dt own g w' hf
      obtain ⟨hr,ho,⟨vals,v1,v2,v3,v4⟩,f,eg⟩:=hf.fin
      rw [eg]
      refine wins_calms 13 (ssW_calm A L cp n c cs w.heap.size ((wOut L w).heap.size + 1) f) ?_
      show Wins Tryz.prog Q Z' (it Tryz.prog 13 (ssW A L cp n c cs w.heap.size ((wOut L w).heap.size + 1) f)) w'
      rw [ssW_it]
      refine hk vals w' v2 (fun k hk=>v3 k ?_ hk) v1 (fun b hb hz=>?_) ?_ hf.live.still
      · have:=hf.all k hk
        exact List.count_pos_iff.1 (by omega)
      · have e1:=hr.at_ b (.inr (.inr ⟨hb,hz⟩))
        have e2:(cfgOf (wOut L w) A L cp n pv pg (fun b=>b < w.heap.size∧¬ Z b) Z τ d n0 cl).W0.heap[b]? = (wOut L w).heap[b]?:=w6_old (by omega)
        rw [e1,e2]
        unfold wOut
        rw [Array.getElem?_push,if_neg (by omega)]
      · obtain ⟨-,⟨st,sm,hw⟩,-⟩:=hf.live
        have:=(Array.getElem?_eq_some_iff.1 hw).1
        have e:(lookX (fun C=>sRec C c cs w.heap.size) (fun C=>sFin C c cs w.heap.size) (ssF A L cp n c cs w.heap.size) (c :: cs) w.heap.size (.cells (Array.replicate L (.int .i64 0)) 3 (0,0)) (cfgOf (wOut L w) A L cp n pv pg (fun b=>b < w.heap.size∧¬ Z b) Z τ d n0 cl)).Y.wg = (wOut L w).heap.size + 4:=rfl
        omega
  show Wins Tryz.prog Q Z (ssD A L cp n c cs) w
  refine winsB_make (v:=.slice (some (adr w.heap.size)) L L) (w':=wOut L w) (ssD_at A L cp n c cs) (by kernel_rfl) (fun τ d=>ssD_run A L cp n c cs hL (Co.re w τ d)) ?_
  intro gs sl t q τ d h0 hLv hP
  exact key gs sl t q τ d h0 hLv (hP.mono (by simp [wOut]))
end
end Go.Proofs.YtlaipigilikmbaaGreatDoor.Ph

namespace Go.Proofs.YtlaipigilikmbaaGreatDoor.Ph
open Go Go.Conc Go.Proofs.YtlaipigilikmbaaGreatDoor.Co Go.Proofs.YtlaipigilikmbaaGreatDoor.Cl Go.Proofs Go.Proofs.YtlaipigilikmbaaGreatDoor Go.RowKit
section
variable (A:Option Addr) (L cp n:Nat) (c:Frame) (cs:List Frame)
noncomputable def ssC':Goroutine:=fin (it Tryz.prog 9 (ssB A L cp n c cs)) (.bool true)
theorem ssC'_calm:Calms Tryz.prog true 25 (ssC' A L cp n c cs):=by
  iterate 25 refine ⟨by kernel_rfl,fun _=>by kernel_rfl, ?_⟩
  trivial
theorem ssC'_it:it Tryz.prog 25 (ssC' A L cp n c cs) = G (c.finish fullV) cs:=by kernel_rfl
end
section
variable {Q:Value→World→Prop} {w:World} {A:Option Addr} {L cp n:Nat} {pv:Nat→Value} {pg:Nat→List UInt8} {Z:Bl} {c:Frame} {cs:List Frame}
theorem states_full (hn1:1 ≤ n) (hn:n ≤ 8) (hL:4096 < L) (hk:Wins Tryz.prog Q Z (G (c.finish fullV) cs) w):Wins Tryz.prog Q Z (ss0 A L cp n c cs) w:=by
  refine wins_calms 20 (ss0_calm A L cp n c cs) ?_
  rw [ss0_it,show decide ((n:Int) < 1) = false from decide_eq_false (by omega)]
  refine wins_calms 3 (ssA_calm A L cp n c cs) ?_
  show Wins Tryz.prog Q Z (it Tryz.prog 3 (ssA A L cp n c cs)) w
  rw [ssA_it,show decide ((8:Int) < (n:Int)) = false from decide_eq_false (by omega)]
  refine wins_calms 10 (ssB_calm A L cp n c cs) ?_
  show Wins Tryz.prog Q Z (it Tryz.prog 10 (ssB A L cp n c cs)) w
  rw [ssB_it,show decide ((4096:Int) < (L:Int)) = true from decide_eq_true (by omega)]
  refine wins_calms 25 (ssC'_calm A L cp n c cs) ?_
  show Wins Tryz.prog Q Z (it Tryz.prog 25 (ssC' A L cp n c cs)) w
  rw [ssC'_it]
  exact hk
def StaR (pg:Nat→List UInt8) (L:Nat) (W:World) (Z Z':Bl) (D:Option Addr) (w':World):Prop :=
  RowsC w' 3 1 D L L ((List.range L).map fun k=>.int .i64 (opn (pg k)).2.2.2)∧(∀ a,D = some a→W.heap.size ≤ a.block∧¬ Z' a.block)∧(∀ b,b < W.heap.size→¬ Z b→w'.heap[b]? = W.heap[b]?)∧(∀ x,Z' x→x < w'.heap.size)∧w'.os = W.os∧w'.output = W.output
theorem states_all (h:Args w A L pv pg (fun b=>b < w.heap.size∧¬ Z b) Z) (hn1:1 ≤ n) (hn:n ≤ 8) (hL:L ≤ 4096)
    (hk:∀ D w',StaR pg L w Z (Zn Z w) D w'→Wins Tryz.prog Q (Zn Z w) (G (c.finish (.tuple #[.slice D L L,.nilIface])) cs) w'):Wins Tryz.prog Q Z (ss0 A L cp n c cs) w:=by
  refine states_wins (Z':=Zn Z w) h hn1 hn hL (fun b hb=>.inl hb) (.inr (.inl rfl)) (.inr (.inr (.inl rfl))) (.inr (.inr (.inr rfl))) fun vals w' h1 h2 h3 h4 h5 h6=>?_
  refine hk _ w' ⟨.inr ⟨w.heap.size,vals,(0,0),rfl,h3,fun o h1 h2=>by omega,Nat.le_refl _,by simp only [maxLen]; omega,by omega, ?_⟩,fun a ha=>?_,h4,fun x hx=>?_,h6⟩
  · rw [Nat.mul_one,List.take_of_length_le (by simpa using Nat.le_of_eq h1)]
    refine List.ext_getElem? fun i=>?_
    by_cases hi:i < L
    · rw [Array.getElem?_toList,h2 i hi,List.getElem?_map,List.getElem?_range hi]
      rfl
    · rw [List.getElem?_eq_none (by simpa using (by omega:vals.size ≤ i)),List.getElem?_eq_none (by simpa using hi)]
  · cases ha
    refine ⟨Nat.le_refl _,fun hz=>?_⟩
    have hz:Zn Z w w.heap.size:=hz
    rcases hz with h1 | h1 | h1 | h1
    · have:=h.zlt _ h1
      omega
    all_goals omega
  · rcases hx with h1 | h1 | h1 | h1
    · have:=h.zlt _ h1
      omega
    all_goals omega
end
end Go.Proofs.YtlaipigilikmbaaGreatDoor.Ph
