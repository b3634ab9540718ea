/- Texts of this seat,put together: WkPosL,WkLook,WkSpawn,WkStore. -/
import Derived.Test.YtlaipigilikmbaaGreatDoorMb23
import Derived.Test.YtlaipigilikmbaaGreatDoorMb22
namespace Go.Proofs.YtlaipigilikmbaaGreatDoor
noncomputable section
set_option linter.unusedVariables false
set_option linter.unusedSimpArgs false
namespace Ph
open Conc Co Cl
structure Stands(X:Cx)(own:Bl)(Q:World→Prop):Prop where
 rely:∀ w w₁,Q w→RR X own w w₁→Q w₁
 put:∀ w st,Q w→Q (put w X.Y.wg (wgObj st 0))
section
variable {C:Cfg}{LoopA LoadA:Goroutine→World→Prop}{SpA:Nat→Bl→Goroutine→World→Prop}{RecA Fin:List Nat→Bl→Bl→Goroutine→World→Prop}{c:Frame}{cs:List Frame}{own:Bl}{i:Nat}{Q:World→Prop}
theorem pos_enab1(hn:∀ w,Q w→Gl (mk0 C LoopA LoadA SpA RecA Fin) true dT (MGo (mk0 C LoopA LoadA SpA RecA Fin) i) own (G (c.finish (.tuple #[])) cs) w)(w:World)(hw:Q w):MEnab (mk0 C LoopA LoadA SpA RecA Fin) i own (ap7 C.bw c cs) w :=
 ⟨by kernel_rfl,_,ap7_step C.bw c cs w,Gl.mute dT0 (by kernel_rfl) (ap8_step C.bw c cs) (hn w hw)⟩
theorem pos_rd(hQ:Stands (mk0 C LoopA LoadA SpA RecA Fin) own Q)(hn:∀ w,Q w→Gl (mk0 C LoopA LoadA SpA RecA Fin) true dT (MGo (mk0 C LoopA LoadA SpA RecA Fin) i) own (G (c.finish (.tuple #[])) cs) w)(w:World)(hw:Q w):MRd (mk0 C LoopA LoadA SpA RecA Fin) i own (ap5 C.bw c cs) w:=by
 refine⟨by kernel_rfl,_,iK .read (by simp) (ap5_at C.bw c cs) e_raceRead (ap5_x C.bw c cs),?_⟩;exact Gl.calms dT0 39 (ap6_calm C.bw c cs) (.stop fun w₁ h₁=>pos_enab1 hn w₁ (hQ.rely _ _ hw h₁))
theorem pos_wrap(v:Nat)(hv:v<10):IntKind.u64.wrap ((v:Int)*KK+4294967296)=((v:Int)+1)*KK:=by
 rw[IntKind.wrap_u64];unfold KK;omega
theorem pos_add(hQ:Stands (mk0 C LoopA LoadA SpA RecA Fin) own Q)(hn:∀ w,Q w→Gl (mk0 C LoopA LoadA SpA RecA Fin) true dT (MGo (mk0 C LoopA LoadA SpA RecA Fin) i) own (G (c.finish (.tuple #[])) cs) w)(w:World)(hq:Q w):MAdd (mk0 C LoopA LoadA SpA RecA Fin) i own (ap2 C.bw c cs) w:=by
 refine⟨by kernel_rfl,fun v hv hw=>?_⟩;have hw:w.heap[C.bw]? = some (wgObj ((v:Int)*KK) 0):=hw;have h:=step_add (main:=true) (ap2_at C.bw c cs) e_addU64 (ap2_x C.bw c cs).1 (ap2_x C.bw c cs).2 (wg_st hw) (wg_fz hw 0);rw[pos_wrap v hv,wg_set hw]at h;have hq1:=hQ.put w (((v:Int)+1)*KK) hq;refine⟨_,_,h,evS2,fun hl=>?_,fun hl=>?_⟩
 ·subst hl;refine Gl.calms dT0 52 (ap3_calm1 C.bw c cs) (Gl.conv dT0 (ap4_at C.bw c cs) (by kernel_rfl) (ap4_op C.bw c cs) (ap4_x C.bw c cs) (t:=65) (by kernel_rfl) (by kernel_rfl) (by kernel_rfl) ?_ (.stop fun w₁ h₁=>pos_rd hQ hn w₁ (hQ.rely _ _ hq1 h₁)));rintro w₁ ⟨_,⟨st,sm,hw⟩,_⟩;exact⟨_,wg_sm hw⟩
 ·obtain⟨k1,k2,k3,k4,k5⟩:=apq hv hl C.bw c cs;exact Gl.calms dT0 87 k1 (.stop fun w₁ h₁=>⟨k2,_,k3 w₁,Gl.mute dT0 k4 k5 (hn w₁ (hQ.rely _ _ hq1 h₁))⟩)
theorem pos_dis(hQ:Stands (mk0 C LoopA LoadA SpA RecA Fin) own Q)(hn:∀ w,Q w→Gl (mk0 C LoopA LoadA SpA RecA Fin) true dT (MGo (mk0 C LoopA LoadA SpA RecA Fin) i) own (G (c.finish (.tuple #[])) cs) w)(w:World)(hw:Q w):MDis (mk0 C LoopA LoadA SpA RecA Fin) i own (ap0 C.bw c cs) w:=by
 refine⟨by kernel_rfl,_,jv .disable (by simp) (ap0_at C.bw c cs) nU,?_⟩;exact Gl.calms dT0 34 (ap1_calm C.bw c cs) (.stop fun w₁ h₁=>pos_add hQ hn w₁ (hQ.rely _ _ hw h₁))
theorem pos_all(hQ:Stands (mk0 C LoopA LoadA SpA RecA Fin) own Q)(hn:∀ w,Q w→Gl (mk0 C LoopA LoadA SpA RecA Fin) true dT (MGo (mk0 C LoopA LoadA SpA RecA Fin) i) own (G (c.finish (.tuple #[])) cs) w)(w:World)(hw:Q w):Gl (mk0 C LoopA LoadA SpA RecA Fin) true dT (MDis (mk0 C LoopA LoadA SpA RecA Fin) i) own (ap C.bw c cs) w :=
 Gl.calms dT0 12 (ap_calm C.bw c cs) (.stop fun w₁ h₁=>pos_dis hQ hn w₁ (hQ.rely _ _ hw h₁))
end
end Ph
namespace Ph
open Conc Co Cl
def nextS(P:Program)(g:Goroutine):Goroutine:=match stepG P true g default with|.spawn g' _ _ _=>g'|_=>g
section
variable (A:Option Addr)(L cp n bp bc bo bn bw:Nat)(c:Frame)(cs:List Frame)
def lk0:Goroutine:=G (Frame.enter Tryz.prog 30 #[.slice A L cp,.int .i64 n] .normal) (c::cs)
def lk1:Goroutine:=fin (it Tryz.prog 2 (lk0 A L cp n c cs)) (pw bp)
def lk2:Goroutine:=fin (it Tryz.prog 5 (lk1 A L cp n bp c cs)) (.chan (some bc))
def lk3:Goroutine:=fin (lk2 A L cp n bp bc c cs) (pw bo)
def lk4:Goroutine:=fin (lk3 A L cp n bp bc bo c cs) undef
def lk5:Goroutine:=fin (it Tryz.prog 3 (lk4 A L cp n bp bc bo c cs)) (pw bn)
def lk6:Goroutine:=fin (it Tryz.prog 3 (lk5 A L cp n bp bc bo bn c cs)) (pw bw)
def lkH0:Goroutine:=it Tryz.prog 9 (lk6 A L cp n bp bc bo bn bw c cs)
end
def Th(A:Option Addr)(L cp n bp bo bn bw:Nat)(x:Int)(f:Nat→Value):Array Value:=#[.slice A L cp,.int .i64 n,pw bp,f 3,f 4,pw bo,pw bn,pw bw,f 8,f 9,.int .i64 n,.int .i64 x,f 12,f 13,f 14,f 15,f 16,f 17]
section
variable (A:Option Addr)(L cp n bp bc bo bn bw:Nat)(c:Frame)(cs:List Frame)(x:Int)(f:Nat→Value)
def lkH:Goroutine:={lkH0 A L cp n bp bc bo bn bw c cs with frame:={(lkH0 A L cp n bp bc bo bn bw c cs).frame with tmps:=Th A L cp n bp bo bn bw x f}}
theorem lk6_it:it Tryz.prog 9 (lk6 A L cp n bp bc bo bn bw c cs)=lkH A L cp n bp bc bo bn bw c cs 0 (fun i=>(lkH0 A L cp n bp bc bo bn bw c cs).frame.tmps.getD i undef):=by kernel_rfl
theorem lkH_calm:Calms Tryz.prog true 3 ((lkH A L cp n bp bc bo bn bw c cs x f)):=by
 iterate 3 refine⟨by kernel_rfl,fun _=>by kernel_rfl,?_⟩
 trivial
theorem lkH_it:it Tryz.prog 3 (lkH A L cp n bp bc bo bn bw c cs x f)=fin (it Tryz.prog 2 (lkH A L cp n bp bc bo bn bw c cs x f)) (.bool (decide (x<(n:Int)))):=by kernel_rfl
def lkT:Goroutine:=fin (it Tryz.prog 2 (lkH A L cp n bp bc bo bn bw c cs x f)) (.bool true)
theorem lkT_calm:Calms Tryz.prog true 9 ((lkT A L cp n bp bc bo bn bw c cs x f)):=by
 iterate 9 refine⟨by kernel_rfl,fun _=>by kernel_rfl,?_⟩
 trivial
def lkTc:Frame:=((it Tryz.prog 9 (lkT A L cp n bp bc bo bn bw c cs x f)).callers[0]?).getD default
def lkTs:List Frame:=(it Tryz.prog 9 (lkT A L cp n bp bc bo bn bw c cs x f)).callers.drop 1
theorem lkT_it:it Tryz.prog 9 (lkT A L cp n bp bc bo bn bw c cs x f)=ap bw (lkTc A L cp n bp bc bo bn bw c cs x f) (lkTs A L cp n bp bc bo bn bw c cs x f):=by kernel_rfl
def lkA:Goroutine:=G (Frame.finish (lkTc A L cp n bp bc bo bn bw c cs x f) (.tuple #[])) (lkTs A L cp n bp bc bo bn bw c cs x f)
theorem lkA_calm:Calms Tryz.prog true 3 ((lkA A L cp n bp bc bo bn bw c cs x f)):=by
 iterate 3 refine⟨by kernel_rfl,fun _=>by kernel_rfl,?_⟩
 trivial
def lkG:Goroutine:=it Tryz.prog 3 (lkA A L cp n bp bc bo bn bw c cs x f)
theorem lkG_run:Goroutine.status (lkG A L cp n bp bc bo bn bw c cs x f)=.running:=by kernel_rfl
theorem lkG_go(w:World):stepG Tryz.prog true (lkG A L cp n bp bc bo bn bw c cs x f) w=.spawn (nextS Tryz.prog (lkG A L cp n bp bc bo bn bw c cs x f)) (wkN bw bn bp bo) w #[]:=by kernel_rfl
theorem lkS_calm:Calms Tryz.prog true 7 (nextS Tryz.prog (lkG A L cp n bp bc bo bn bw c cs x f)):=by
 iterate 7 refine⟨by kernel_rfl,fun _=>by kernel_rfl,?_⟩
 trivial
theorem lkS_it:it Tryz.prog 7 (nextS Tryz.prog (lkG A L cp n bp bc bo bn bw c cs x f))=lkH A L cp n bp bc bo bn bw c cs (IntKind.i64.wrap (x+1)) (fun i=>(it Tryz.prog 7 (nextS Tryz.prog (lkG A L cp n bp bc bo bn bw c cs x f))).frame.tmps.getD i undef):=by kernel_rfl
def lkF:Goroutine:=fin (it Tryz.prog 2 (lkH A L cp n bp bc bo bn bw c cs x f)) (.bool false)
theorem lkF_calm:Calms Tryz.prog true 7 ((lkF A L cp n bp bc bo bn bw c cs x f)):=by
 iterate 7 refine⟨by kernel_rfl,fun _=>by kernel_rfl,?_⟩
 trivial
def lkU:Goroutine:=it Tryz.prog 7 (lkF A L cp n bp bc bo bn bw c cs x f)
theorem lkU_run:Goroutine.status (lkU A L cp n bp bc bo bn bw c cs x f)=.running:=by kernel_rfl
theorem lkU_go(w:World):stepG Tryz.prog true (lkU A L cp n bp bc bo bn bw c cs x f) w=.spawn (nextS Tryz.prog (lkU A L cp n bp bc bo bn bw c cs x f)) (clN bw bo) w #[]:=by kernel_rfl
theorem lkV_calm:Calms Tryz.prog true 3 (nextS Tryz.prog (lkU A L cp n bp bc bo bn bw c cs x f)):=by
 iterate 3 refine⟨by kernel_rfl,fun _=>by kernel_rfl,?_⟩
 trivial
def lkV:Goroutine:=it Tryz.prog 3 (nextS Tryz.prog (lkU A L cp n bp bc bo bn bw c cs x f))
theorem lkV_at:AtO (lkV A L cp n bp bc bo bn bw c cs x f) (oOf (lkV A L cp n bp bc bo bn bw c cs x f)):=⟨by unfold AtOp;kernel_rfl,by kernel_rfl,by kernel_rfl,by rw[show(Goroutine.frame (lkV A L cp n bp bc bo bn bw c cs x f)).kind=.normal by kernel_rfl];simp⟩
theorem lkW_calm:Calms Tryz.prog true 4 (fin (lkV A L cp n bp bc bo bn bw c cs x f) (.chan (some bc))):=by
 iterate 4 refine⟨by kernel_rfl,fun _=>by kernel_rfl,?_⟩
 trivial
theorem lkW_it:it Tryz.prog 4 (fin (lkV A L cp n bp bc bo bn bw c cs x f) (.chan (some bc)))=G (c.finish (.chan (some bc))) cs:=by kernel_rfl
end
end Ph
namespace Ph
open Conc Co Cl
section
variable (C:Cfg)(c:Frame)(cs:List Frame)(bm:Nat)(ob:Obj)
structure Kept1(w:World):Prop where
 ro:RoOk C w
 at_:w.heap[bm]? = some ob
def lkHC(x:Int)(f:Nat→Value):Goroutine:=lkH C.Ap C.L C.cp C.n C.bp C.bc C.bo C.bn C.bw c cs x f
def lkUC(f:Nat→Value):Goroutine:=nextS Tryz.prog (lkU C.Ap C.L C.cp C.n C.bp C.bc C.bo C.bn C.bw c cs (C.n:Int) f)
def spA(i:Nat)(own:Bl)(g:Goroutine)(w:World):Prop:=own=(fun b=>b=bm)∧Kept1 C bm ob w∧∃ f m,Calms Tryz.prog true m g∧it Tryz.prog m g=lkHC C c cs (i:Int) f
end
section
variable {C:Cfg}{c:Frame}{cs:List Frame}{bm:Nat}{ob:Obj}{RecA Fin:List Nat→Bl→Bl→Goroutine→World→Prop}
theorem Kept1.stands(hC:bK C)(hb:bm≠C.bw):Stands (mk0 C (loopA C) (loadA C) (spA C c cs bm ob) RecA Fin) (fun b=>b=bm) (Kept1 C bm ob):=by
 refine⟨fun w w₁ h hr=>⟨h.ro.rely hr,?_⟩,fun w st h=>⟨h.ro.put hC.roW,?_⟩⟩
 ·rw[hr.rel.keep bm (.inl rfl) (Array.getElem?_eq_some_iff.1 h.at_).1];exact h.at_
 ·unfold put;simp only[Array.getElem?_setIfInBounds];rw[if_neg (show ¬(mk0 C (loopA C) (loadA C) (spA C c cs bm ob) RecA Fin).Y.wg=bm from Ne.symm hb)];exact h.at_
theorem sp_walk(hC:bK C)(hb:bm≠C.bw)(hn:C.n<9223372036854775807)(i:Nat)(own:Bl)(g:Goroutine)(w:World)(hi:i<C.n)(h:spA C c cs bm ob i own g w):Gl (mk0 C (loopA C) (loadA C) (spA C c cs bm ob) RecA Fin) true dT (MDis (mk0 C (loopA C) (loadA C) (spA C c cs bm ob) RecA Fin) i) own g w:=by
 obtain⟨rfl,hw,f,m,hm,e⟩:=h;have hs:=Kept1.stands (C:=C) (c:=c) (cs:=cs) (ob:=ob) (RecA:=RecA) (Fin:=Fin) hC hb;refine Gl.calms dT0 m hm ?_;show Gl (mk0 C (loopA C) (loadA C) (spA C c cs bm ob) RecA Fin) true dT _ _ (it Tryz.prog m g) w;rw[e];refine Gl.calms dT0 3 (lkH_calm C.Ap C.L C.cp C.n C.bp C.bc C.bo C.bn C.bw c cs (i:Int) f) ?_;show Gl (mk0 C (loopA C) (loadA C) (spA C c cs bm ob) RecA Fin) true dT _ _ (it Tryz.prog 3 (lkH C.Ap C.L C.cp C.n C.bp C.bc C.bo C.bn C.bw c cs (i:Int) f)) w;rw[lkH_it,show decide ((i:Int)<(C.n:Int))=true from decide_eq_true (by omega)];refine Gl.calms dT0 9 (lkT_calm C.Ap C.L C.cp C.n C.bp C.bc C.bo C.bn C.bw c cs (i:Int) f) ?_;show Gl (mk0 C (loopA C) (loadA C) (spA C c cs bm ob) RecA Fin) true dT _ _ (it Tryz.prog 9 (lkT C.Ap C.L C.cp C.n C.bp C.bc C.bo C.bn C.bw c cs (i:Int) f)) w;rw[lkT_it];refine pos_all hs (fun w₁ h₁=>?_) w hw;refine Gl.calms dT0 3 (lkA_calm C.Ap C.L C.cp C.n C.bp C.bc C.bo C.bn C.bw c cs (i:Int) f) (.stop fun w₂ h₂=>?_);have k2:=hs.rely _ _ h₁ h₂
 have e7:it Tryz.prog 7 (nextS Tryz.prog (lkG C.Ap C.L C.cp C.n C.bp C.bc C.bo C.bn C.bw c cs (i:Int) f))=lkHC C c cs ((i+1:Nat):Int) (fun j=>(it Tryz.prog 7 (nextS Tryz.prog (lkG C.Ap C.L C.cp C.n C.bp C.bc C.bo C.bn C.bw c cs (i:Int) f))).frame.tmps.getD j undef):=by
  refine(lkS_it C.Ap C.L C.cp C.n C.bp C.bc C.bo C.bn C.bw c cs (i:Int) f).trans ?_;unfold lkHC;rw[show IntKind.i64.wrap ((i:Int)+1)=((i+1:Nat):Int) by rw[IntKind.wrap_i64];omega]
 refine⟨lkG_run C.Ap C.L C.cp C.n C.bp C.bc C.bo C.bn C.bw c cs (i:Int) f,_,_,lkG_go C.Ap C.L C.cp C.n C.bp C.bc C.bo C.bn C.bw c cs (i:Int) f w₂,by kernel_rfl,fun w₃ h₃=>w_new hC (k2.ro.rely h₃),fun w₃ h₃=>⟨rfl,hs.rely _ _ k2 h₃,_,7,lkS_calm C.Ap C.L C.cp C.n C.bp C.bc C.bo C.bn C.bw c cs (i:Int) f,e7⟩⟩
theorem sp_last(hC:bK C)(hb:bm≠C.bw)(hR:∀ w f,Kept1 C bm ob w→RecA [] noB (fun b=>b=bm) (lkUC C c cs f) w)(own:Bl)(g:Goroutine)(w:World)(h:spA C c cs bm ob C.n own g w):Gl (mk0 C (loopA C) (loadA C) (spA C c cs bm ob) RecA Fin) true dT (MGoc (mk0 C (loopA C) (loadA C) (spA C c cs bm ob) RecA Fin)) own g w:=by
 obtain⟨rfl,hw,f,m,hm,e⟩:=h;have hs:=Kept1.stands (C:=C) (c:=c) (cs:=cs) (ob:=ob) (RecA:=RecA) (Fin:=Fin) hC hb;refine Gl.calms dT0 m hm ?_;show Gl (mk0 C (loopA C) (loadA C) (spA C c cs bm ob) RecA Fin) true dT _ _ (it Tryz.prog m g) w;rw[e];refine Gl.calms dT0 3 (lkH_calm C.Ap C.L C.cp C.n C.bp C.bc C.bo C.bn C.bw c cs (C.n:Int) f) ?_;show Gl (mk0 C (loopA C) (loadA C) (spA C c cs bm ob) RecA Fin) true dT _ _ (it Tryz.prog 3 (lkH C.Ap C.L C.cp C.n C.bp C.bc C.bo C.bn C.bw c cs (C.n:Int) f)) w;rw[lkH_it,show decide ((C.n:Int)<(C.n:Int))=false from decide_eq_false (by omega)];refine Gl.calms dT0 7 (lkF_calm C.Ap C.L C.cp C.n C.bp C.bc C.bo C.bn C.bw c cs (C.n:Int) f) (.stop fun w₂ h₂=>?_);have k2:=hs.rely _ _ hw h₂;exact⟨lkU_run C.Ap C.L C.cp C.n C.bp C.bc C.bo C.bn C.bw c cs (C.n:Int) f,_,_,lkU_go C.Ap C.L C.cp C.n C.bp C.bc C.bo C.bn C.bw c cs (C.n:Int) f w₂,by kernel_rfl,cl_new hC w₂ k2.ro,fun w₃ h₃=>hR w₃ f (hs.rely _ _ k2 h₃)⟩
theorem rc_begin{LoopA LoadA:Goroutine→World→Prop}{SpA:Nat→Bl→Goroutine→World→Prop}{Stop:Bl→Goroutine→World→Prop}{own:Bl}(hC:bK C){w:World}(hr:RoOk C w)(f:Nat→Value)(h:Gl (mk0 C LoopA LoadA SpA RecA Fin) true dT Stop own (G (c.finish (.chan (some C.bc))) cs) w):Gl (mk0 C LoopA LoadA SpA RecA Fin) true dT Stop own (lkUC C c cs f) w:=by
 refine Gl.calms dT0 3 (lkV_calm C.Ap C.L C.cp C.n C.bp C.bc C.bo C.bn C.bw c cs (C.n:Int) f) ?_;refine Gl.load (a:=adr C.bo) (v:=.chan (some C.bc)) (lkV_at C.Ap C.L C.cp C.n C.bp C.bc C.bo C.bn C.bw c cs (C.n:Int) f) (by kernel_rfl) (fun w₁=>by kernel_rfl) (aF (hr.cell hC.roO (ocell hC)) (.inr hC.roO)) (.inr hC.roO) ?_;refine Gl.calms dT0 4 (lkW_calm C.Ap C.L C.cp C.n C.bp C.bc C.bo C.bn C.bw c cs (C.n:Int) f) ?_;show Gl (mk0 C LoopA LoadA SpA RecA Fin) true dT _ _ (it Tryz.prog 4 (fin (lkV C.Ap C.L C.cp C.n C.bp C.bc C.bo C.bn C.bw c cs (C.n:Int) f) (.chan (some C.bc)))) w;rw[lkW_it];exact h
end
end Ph
namespace Ph
open Conc Co Cl
section
variable {P:Program}{w:World}
theorem run_store1{b o:Nat}{t ty:TypeId}{cur:Array Value}{k:IntKind}{n:Int}(hb:w.heap[b]? = some (.cells cur t (0,0)))(ho:o<cur.size)(hi:(P.info? ty).map (·.size)=some 1) :
 (storeVar ty ⟨b,o,none⟩ (.int k n)).run P w=.ok () (w.setRow b (cur.setIfInBounds o (.int k n)))∧∀ e∈(storeVar ty ⟨b,o,none⟩ (.int k n)).events P w #[],∃ad,e=⟨.cell ad,true,false⟩∧ad.block=b:=by
 have hq:=gJ (P:=P) hi
 have e1:(Go.sizeOf ty).run P w=.ok 1 w:=by rw[←Sem.runT_fst P _ w #[],hq]
 have e2:(Go.sizeOf ty).events P w #[]=#[]:=by unfold Sem.events;rw[hq]
 have hadd:(⟨b,o,none⟩:Addr).add 0=⟨b,o,none⟩:=by unfold Addr.add;simp
 have hcell:w.cell? ⟨b,o,none⟩=some cur[o]:=by simp[World.cell?,hb,ho]
 have hfro:w.frozen? ⟨b,o,none⟩=false:=by simp[World.frozen?,hb]
 have hst:(store ⟨b,o,none⟩ (.int k n)).run P w=.ok () (w.setRow b (cur.setIfInBounds o (.int k n))):=by
  rw[run_store P w _ (.int k n) _ rfl,hcell];simp[hfro,setCell_eq_setRow w b o cur t (0,0) (.int k n) hb]
 have hz:storeVar ty ⟨b,o,none⟩ (.int k n)=(Go.sizeOf ty >>= fun s=>if (Value.int k n).cells.size≠s then stuck "storeVar: the value has not the size of the variable" else storeCells ⟨b,o,none⟩ [.int k n] 0):=by
  unfold storeVar;rfl
 constructor
 ·rw[hz,Sem.run_bind,e1,Result.andThen_ok];rw[if_neg (by simp[Value.cells])];simp only[storeCells,hadd,Sem.run_bind,hst,Result.andThen_ok];rfl
 ·intro e he;rw[hz,Sem.events_bind,e1,Result.evThen_ok,e2,if_neg (by simp[Value.cells])]at he;rcases dN b o t [.int k n] 0 cur w #[] hb (by simp;omega) (fun v hv=>by simp at hv;subst hv;rfl) e he with h|h
  ·simp at h
  ·exact h
end
section
variable {X:Cx}{main:Bool}{Stop:Bl→Goroutine→World→Prop}{own:Bl}{w:World}{g:Goroutine}{o:Oper}
end
end Ph
