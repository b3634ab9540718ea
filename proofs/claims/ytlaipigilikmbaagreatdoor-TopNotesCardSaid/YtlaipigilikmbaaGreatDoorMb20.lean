/- Texts of this seat,put together: WkWalk,WkLoop,WkSend,WkClos,WkTail,WkHit,WkHit1. -/
import Derived.Test.YtlaipigilikmbaaGreatDoorMb15
import Derived.Test.YtlaipigilikmbaaGreatDoorMb19
import Derived.Conc.TokenWalk
namespace Go.Proofs.YtlaipigilikmbaaGreatDoor
noncomputable section
set_option linter.unusedVariables false
set_option linter.unusedSimpArgs false
namespace Ph
open Conc Co Cl
def Tf(bw bn bp bo:Nat)(f:Nat→Value):Array Value:=#[pw bw,pw bn,pw bp,pw bo,f 4,f 5,f 6,f 7,f 8,f 9,f 10,f 11,f 12,f 13,f 14,f 15,f 16,f 17,f 18,f 19,f 20,f 21,f 22,f 23,f 24,f 25]
section
variable (bw bn bp bo:Nat)(f:Nat→Value)
theorem wS_calm:Calms Tryz.prog false 17 (wkS bw bn bp bo (Tf bw bn bp bo f)):=by
 iterate 17 refine⟨by kernel_rfl,fun _=>by kernel_rfl,?_⟩
 trivial
theorem wS_it:it Tryz.prog 17 (wkS bw bn bp bo (Tf bw bn bp bo f))=wk1 bw bn bp bo (Tf bw bn bp bo f):=by kernel_rfl
theorem wN_calm:Calms Tryz.prog false 21 (wkN bw bn bp bo):=by
 iterate 21 refine⟨by kernel_rfl,fun _=>by kernel_rfl,?_⟩
 trivial
theorem wN_it:it Tryz.prog 21 (wkN bw bn bp bo)=wk1 bw bn bp bo (Tf bw bn bp bo fun _=>undef):=by kernel_rfl
theorem w1_at:AtCall (wk1 bw bn bp bo (Tf bw bn bp bo f)) 79 #[.tmp 7,.tmp 8] :=
 ⟨by unfold AtOp;kernel_rfl,⟨oOf (wk1 bw bn bp bo (Tf bw bn bp bo f)),by kernel_rfl,by kernel_rfl,(match (oOf (wk1 bw bn bp bo (Tf bw bn bp bo f))).op with|.call c=>c.argTypes|_=>#[]),by kernel_rfl⟩,by rw[show(wk1 bw bn bp bo (Tf bw bn bp bo f)).frame.kind=.normal by kernel_rfl];simp⟩
theorem w1_x:(aOf (wk1 bw bn bp bo (Tf bw bn bp bo f))).eval (.tmp 7)=.pointer (some (adr bn))∧(aOf (wk1 bw bn bp bo (Tf bw bn bp bo f))).eval (.tmp 8)=.int .i64 1:=⟨by kernel_rfl,by kernel_rfl⟩
theorem w2_calm(c:Int):Calms Tryz.prog false 5 (wk2 bw bn bp bo (Tf bw bn bp bo f) c):=by
 iterate 5 refine⟨by kernel_rfl,fun _=>by kernel_rfl,?_⟩
 trivial
theorem w2_it(c:Int):it Tryz.prog 5 (wk2 bw bn bp bo (Tf bw bn bp bo f) c)=fin (it Tryz.prog 4 (wk2 bw bn bp bo (Tf bw bn bp bo f) c)) (.int .i64 (IntKind.i64.wrap (c-1))):=by kernel_rfl
variable (k L cp:Nat)(A:Option Addr)
theorem w3_calm:Calms Tryz.prog false 6 (wk3 bw bn bp bo (Tf bw bn bp bo f) k):=by
 iterate 6 refine⟨by kernel_rfl,fun _=>by kernel_rfl,?_⟩
 trivial
theorem w4_at:AtO (wk4 bw bn bp bo (Tf bw bn bp bo f) k) (oOf (wk4 bw bn bp bo (Tf bw bn bp bo f) k)) :=
 ⟨by unfold AtOp;kernel_rfl,by kernel_rfl,by kernel_rfl,by rw[show(wk4 bw bn bp bo (Tf bw bn bp bo f) k).frame.kind=.deferred by kernel_rfl];simp⟩
theorem w5_calm:Calms Tryz.prog false 2 (wk5 bw bn bp bo (Tf bw bn bp bo f) k A L cp):=by
 iterate 2 refine⟨by kernel_rfl,fun _=>by kernel_rfl,?_⟩
 trivial
theorem w5_it:it Tryz.prog 2 (wk5 bw bn bp bo (Tf bw bn bp bo f) k A L cp)=wk6 bw bn bp bo (Tf bw bn bp bo f) k A L cp (decide ((L:Int)≤(k:Int))):=by kernel_rfl
theorem w6t_calm:Calms Tryz.prog false 7 (wk6 bw bn bp bo (Tf bw bn bp bo f) k A L cp true):=by
 iterate 7 refine⟨by kernel_rfl,fun _=>by kernel_rfl,?_⟩
 trivial
def w6c:Frame:=((it Tryz.prog 7 (wk6 bw bn bp bo (Tf bw bn bp bo f) k A L cp true)).callers[0]?).getD default
def w6cs:List Frame:=(it Tryz.prog 7 (wk6 bw bn bp bo (Tf bw bn bp bo f) k A L cp true)).callers.drop 1
theorem w6t_it:it Tryz.prog 7 (wk6 bw bn bp bo (Tf bw bn bp bo f) k A L cp true)=an bw (w6c bw bn bp bo f k L cp A) (w6cs bw bn bp bo f k L cp A):=by kernel_rfl
theorem w6f_calm:Calms Tryz.prog false 5 (wk6 bw bn bp bo (Tf bw bn bp bo f) k A L cp false):=by
 iterate 5 refine⟨by kernel_rfl,fun _=>by kernel_rfl,?_⟩
 trivial
theorem w7_at:AtO (wk7 bw bn bp bo (Tf bw bn bp bo f) k A L cp) (oOf (wk7 bw bn bp bo (Tf bw bn bp bo f) k A L cp)) :=
 ⟨by unfold AtOp;kernel_rfl,by kernel_rfl,by kernel_rfl,by rw[show(wk7 bw bn bp bo (Tf bw bn bp bo f) k A L cp).frame.kind=.deferred by kernel_rfl];simp⟩
theorem w8_calm:Calms Tryz.prog false 1 (wk8 bw bn bp bo (Tf bw bn bp bo f) k A L cp):=by
 iterate 1 refine⟨by kernel_rfl,fun _=>by kernel_rfl,?_⟩
 trivial
theorem w8_at:AtO (it Tryz.prog 1 (wk8 bw bn bp bo (Tf bw bn bp bo f) k A L cp)) (oOf (it Tryz.prog 1 (wk8 bw bn bp bo (Tf bw bn bp bo f) k A L cp))) :=
 ⟨by unfold AtOp;kernel_rfl,by kernel_rfl,by kernel_rfl,by rw[show(it Tryz.prog 1 (wk8 bw bn bp bo (Tf bw bn bp bo f) k A L cp)).frame.kind=.deferred by kernel_rfl];simp⟩
theorem w8_op:execOp (aOf (it Tryz.prog 1 (wk8 bw bn bp bo (Tf bw bn bp bo f) k A L cp))).eval (oOf (it Tryz.prog 1 (wk8 bw bn bp bo (Tf bw bn bp bo f) k A L cp)))=(do Pure.pure (Next.value (←Instr.indexAt 43 (.slice A L cp) (.int .i64 (k:Int))))):=by kernel_rfl
variable (b off:Nat)
theorem w9_at:AtO (wk9 bw bn bp bo (Tf bw bn bp bo f) k b off L cp) (oOf (wk9 bw bn bp bo (Tf bw bn bp bo f) k b off L cp)) :=
 ⟨by unfold AtOp;kernel_rfl,by kernel_rfl,by kernel_rfl,by rw[show(wk9 bw bn bp bo (Tf bw bn bp bo f) k b off L cp).frame.kind=.deferred by kernel_rfl];simp⟩
variable (pv:Value)
theorem w11_calm:Calms Tryz.prog false 1 (wk11 bw bn bp bo (Tf bw bn bp bo f) k b off L cp pv):=by
 iterate 1 refine⟨by kernel_rfl,fun _=>by kernel_rfl,?_⟩
 trivial
theorem w11_it:it Tryz.prog 1 (wk11 bw bn bp bo (Tf bw bn bp bo f) k b off L cp pv)=G (Frame.enter Tryz.prog 51 #[pv] .normal) ((wk11 bw bn bp bo (Tf bw bn bp bo f) k b off L cp pv).frame::(wk11 bw bn bp bo (Tf bw bn bp bo f) k b off L cp pv).callers):=by kernel_rfl
variable (a1 a2 a3 a4:Int)(sl:Value)
theorem w12_calm:Calms Tryz.prog false 3 (wk12 bw bn bp bo (Tf bw bn bp bo f) k b off L cp pv a1 a2 a3 sl a4):=by
 iterate 3 refine⟨by kernel_rfl,fun _=>by kernel_rfl,?_⟩
 trivial
theorem w12_eq:G ((wk11 bw bn bp bo (Tf bw bn bp bo f) k b off L cp pv).frame.finish (.tuple #[.agg #[.int .i64 a1,.int .i64 a2,.int .i64 a3,sl],.int .i64 a4])) (wk11 bw bn bp bo (Tf bw bn bp bo f) k b off L cp pv).callers=wk12 bw bn bp bo (Tf bw bn bp bo f) k b off L cp pv a1 a2 a3 sl a4:=by kernel_rfl
theorem w13_at:AtO (wk13 bw bn bp bo (Tf bw bn bp bo f) k b off L cp pv a1 a2 a3 sl a4) (oOf (wk13 bw bn bp bo (Tf bw bn bp bo f) k b off L cp pv a1 a2 a3 sl a4)) :=
 ⟨by unfold AtOp;kernel_rfl,by kernel_rfl,by kernel_rfl,by rw[show(wk13 bw bn bp bo (Tf bw bn bp bo f) k b off L cp pv a1 a2 a3 sl a4).frame.kind=.deferred by kernel_rfl];simp⟩
variable (b5:Nat)
theorem w14_at:AtO (wk14 bw bn bp bo (Tf bw bn bp bo f) k b off L cp pv a1 a2 a3 sl a4 b5) (oOf (wk14 bw bn bp bo (Tf bw bn bp bo f) k b off L cp pv a1 a2 a3 sl a4 b5)) :=
 ⟨by unfold AtOp;kernel_rfl,by kernel_rfl,by kernel_rfl,by rw[show(wk14 bw bn bp bo (Tf bw bn bp bo f) k b off L cp pv a1 a2 a3 sl a4 b5).frame.kind=.deferred by kernel_rfl];simp⟩
theorem w15_calm:Calms Tryz.prog false 3 (wk15 bw bn bp bo (Tf bw bn bp bo f) k b off L cp pv a1 a2 a3 sl a4 b5):=by
 iterate 3 refine⟨by kernel_rfl,fun _=>by kernel_rfl,?_⟩
 trivial
theorem w16_at:AtO (wk16 bw bn bp bo (Tf bw bn bp bo f) k b off L cp pv a1 a2 a3 sl a4 b5) (oOf (wk16 bw bn bp bo (Tf bw bn bp bo f) k b off L cp pv a1 a2 a3 sl a4 b5)) :=
 ⟨by unfold AtOp;kernel_rfl,by kernel_rfl,by kernel_rfl,by rw[show(wk16 bw bn bp bo (Tf bw bn bp bo f) k b off L cp pv a1 a2 a3 sl a4 b5).frame.kind=.deferred by kernel_rfl];simp⟩
variable (bc:Nat)
theorem w17_calm:Calms Tryz.prog false 1 (wk17 bw bn bp bo (Tf bw bn bp bo f) k b off L cp pv a1 a2 a3 sl a4 b5 bc):=by
 iterate 1 refine⟨by kernel_rfl,fun _=>by kernel_rfl,?_⟩
 trivial
theorem w18_at:AtO (wk18 bw bn bp bo (Tf bw bn bp bo f) k b off L cp pv a1 a2 a3 sl a4 b5 bc) (oOf (wk18 bw bn bp bo (Tf bw bn bp bo f) k b off L cp pv a1 a2 a3 sl a4 b5 bc)) :=
 ⟨by unfold AtOp;kernel_rfl,by kernel_rfl,by kernel_rfl,by rw[show(wk18 bw bn bp bo (Tf bw bn bp bo f) k b off L cp pv a1 a2 a3 sl a4 b5 bc).frame.kind=.deferred by kernel_rfl];simp⟩
theorem w19_calm:Calms Tryz.prog false 2 (wk19 bw bn bp bo (Tf bw bn bp bo f) k b off L cp pv a1 a2 a3 sl a4 b5 bc):=by
 iterate 2 refine⟨by kernel_rfl,fun _=>by kernel_rfl,?_⟩
 trivial
theorem w20_send(w:World):∃ z,stepG Tryz.prog false (wk20 bw bn bp bo (Tf bw bn bp bo f) k b off L cp pv a1 a2 a3 sl a4 b5 bc) w=.comm (Conc.core (wk20 bw bn bp bo (Tf bw bn bp bo f) k b off L cp pv a1 a2 a3 sl a4 b5 bc)) #[scase bc (.agg #[.int .i64 k,.int .i64 a1,.int .i64 a2,.int .i64 a3,sl,.int .i64 a4]) z] true .send w #[]:=⟨.tuple #[],by kernel_rfl⟩
theorem w20_served:Conc.served (Conc.core (wk20 bw bn bp bo (Tf bw bn bp bo f) k b off L cp pv a1 a2 a3 sl a4 b5 bc)) undef=wkS bw bn bp bo (Tf bw bn bp bo fun i=>(Conc.served (Conc.core (wk20 bw bn bp bo (Tf bw bn bp bo f) k b off L cp pv a1 a2 a3 sl a4 b5 bc)) undef).frame.tmps.getD i undef):=by kernel_rfl
end
end Ph
namespace Ph
open Conc Co Cl
structure bK(C:Cfg):Prop where
 roP:C.ro C.bp
 roO:C.ro C.bo
 roN:¬ C.ro C.bn
 roW:¬ C.ro C.bw
 roC:¬ C.ro C.bc
 atP:C.W0.heap[C.bp]? = some (.cells #[.slice C.Ap C.L C.cp] 43 (0,0))
 atO:C.W0.heap[C.bo]? = some (.cells #[.chan (some C.bc)] 109 (0,0))
 page:∀ k,k<C.L→∃ b off,C.Ap=some ⟨b,off,none⟩∧C.ro b∧C.W0.cell? ⟨b,off+k,none⟩=some (C.pv k)∧PgAt C.W0 (C.pv k) (C.pg k)∧∀ x,blkOf (C.pv k) x→C.ro x
theorem PgAt.mono{w w':World}{v:Value}{l:List UInt8}(h:PgAt w v l)(hb:∀ x,blkOf v x→w'.heap[x]? = w.heap[x]?):PgAt w' v l:=by
 cases h with
 |nil=>exact .nil
 |zero a=>exact .zero a
 |row hn h0 hc hm h1 hl=>exact .row hn h0 hc hm (by rw[hb _ ⟨rfl,h0⟩];exact h1) hl
section
variable {C:Cfg}{LoopA LoadA:Goroutine→World→Prop}{SpA:Nat→Bl→Goroutine→World→Prop}{RecA Fin:List Nat→Bl→Bl→Goroutine→World→Prop}
theorem RoOk.rely{own:Bl}{w w₁:World}(h:RoOk C w)(hr:RR (mk0 C LoopA LoadA SpA RecA Fin) own w w₁):RoOk C w₁ :=
 ⟨fun b hb=>(hr.rel.keep b (.inr hb) (h.lt b hb)).trans (h.at_ b hb),fun b hb=>Nat.lt_of_lt_of_le (h.lt b hb) hr.rel.size⟩
theorem RoOk.put{w:World}{b:Nat}{o:Obj}(h:RoOk C w)(hb:¬ C.ro b):RoOk C (put w b o):=by
 refine⟨fun x hx=>?_,fun x hx=>by unfold Ph.put;simpa using h.lt x hx⟩;have:b≠x:=fun e=>hb (e▸hx);unfold Ph.put;simp only[Array.getElem?_setIfInBounds];rw[if_neg this];exact h.at_ x hx
theorem RoOk.push{w:World}{o:Obj}(h:RoOk C w):RoOk C {w with heap:=w.heap.push o}:=by
 refine⟨fun x hx=>?_,fun x hx=>by have:=h.lt x hx;simp;omega⟩;have:=h.lt x hx;simp only[Array.getElem?_push];rw[if_neg (by omega)];exact h.at_ x hx
theorem RoOk.setRow{w:World}{b:Nat}{r:Array Value}(h:RoOk C w)(hb:¬ C.ro b):RoOk C (w.setRow b r):=by
 refine⟨fun x hx=>?_,fun x hx=>by simpa[World.setRow] using h.lt x hx⟩;have:b≠x:=fun e=>hb (e▸hx);simp only[World.setRow,Array.getElem?_modify];rw[if_neg this];exact h.at_ x hx
theorem RoOk.cell{w:World}(h:RoOk C w){a:Addr}{v:Value}(hr:C.ro a.block)(hc:C.W0.cell? a=some v):w.cell? a=some v:=by
 unfold World.cell? at hc⊢;rw[h.at_ _ hr];exact hc
def loopA(C:Cfg)(g:Goroutine)(w:World):Prop:=RoOk C w∧∃ f,g=wkS C.bw C.bn C.bp C.bo (Tf C.bw C.bn C.bp C.bo f)
theorem pcell(hC:bK C):C.W0.cell? (adr C.bp)=some (.slice C.Ap C.L C.cp):=by simp[World.cell?,hC.atP]
theorem ocell(hC:bK C):C.W0.cell? (adr C.bo)=some (.chan (some C.bc)):=by simp[World.cell?,hC.atO]
section
variable (f:Nat→Value)(k:Nat)(Stop:Bl→Goroutine→World→Prop)
theorem w_to6(hC:bK C)(hk:k<9223372036854775807){w:World}(hw:RoOk C w)(h:Gl (mk0 C LoopA LoadA SpA RecA Fin) false dT Stop noB (wk6 C.bw C.bn C.bp C.bo (Tf C.bw C.bn C.bp C.bo f) k C.Ap C.L C.cp (decide ((C.L:Int)≤(k:Int)))) w):Gl (mk0 C LoopA LoadA SpA RecA Fin) false dT Stop noB (wk2 C.bw C.bn C.bp C.bo (Tf C.bw C.bn C.bp C.bo f) (k+1)) w:=by
 refine Gl.calms dT0 5 (w2_calm C.bw C.bn C.bp C.bo f (k+1)) ?_;show Gl (mk0 C LoopA LoadA SpA RecA Fin) false dT Stop noB (it Tryz.prog 5 (wk2 C.bw C.bn C.bp C.bo (Tf C.bw C.bn C.bp C.bo f) (k+1))) w;rw[w2_it,show IntKind.i64.wrap ((k:Int)+1-1)=k by rw[IntKind.wrap_i64];omega];refine Gl.calms dT0 6 (w3_calm C.bw C.bn C.bp C.bo f k) ?_;refine Gl.load (X:=(mk0 C LoopA LoadA SpA RecA Fin)) (a:=adr C.bp) (v:=.slice C.Ap C.L C.cp) (w4_at C.bw C.bn C.bp C.bo f k) (by kernel_rfl) (fun w₁=>by kernel_rfl) (aF (hw.cell hC.roP (pcell hC)) (.inr hC.roP)) (.inr hC.roP) ?_;refine Gl.calms dT0 2 (w5_calm C.bw C.bn C.bp C.bo f k C.L C.cp C.Ap) ?_;show Gl (mk0 C LoopA LoadA SpA RecA Fin) false dT Stop noB (it Tryz.prog 2 (wk5 C.bw C.bn C.bp C.bo (Tf C.bw C.bn C.bp C.bo f) k C.Ap C.L C.cp)) w;rw[w5_it];exact h
theorem w_quits(L cp:Nat)(A:Option Addr)(bw bn bp bo:Nat):∃ q,QuitsD Tryz.prog q 0 (G ((w6c bw bn bp bo f k L cp A).finish (.tuple #[])) (w6cs bw bn bp bo f k L cp A)):=by
 refine⟨_,QuitsD.calms 5 ?_ (q:=0) ⟨by kernel_rfl,rfl⟩⟩
 iterate 5 refine⟨by kernel_rfl,fun _=>by kernel_rfl,?_⟩
 trivial
theorem w_rel{w:World}:Gl (mk0 C LoopA LoadA SpA RecA Fin) false dT (SRel (mk0 C LoopA LoadA SpA RecA Fin)) noB (wk6 C.bw C.bn C.bp C.bo (Tf C.bw C.bn C.bp C.bo f) k C.Ap C.L C.cp true) w:=by
 refine Gl.calms dT0 7 (w6t_calm C.bw C.bn C.bp C.bo f k C.L C.cp C.Ap) ?_;show Gl (mk0 C LoopA LoadA SpA RecA Fin) false dT _ noB (it Tryz.prog 7 (wk6 C.bw C.bn C.bp C.bo (Tf C.bw C.bn C.bp C.bo f) k C.Ap C.L C.cp true)) w;rw[w6t_it];exact neg_all (w_quits f k C.L C.cp C.Ap C.bw C.bn C.bp C.bo) w
end
end
end Ph
namespace Ph
open Conc Co Cl
section
variable {C:Cfg}{LoadA:Goroutine→World→Prop}{SpA:Nat→Bl→Goroutine→World→Prop}{RecA Fin:List Nat→Bl→Bl→Goroutine→World→Prop}
section
variable (f:Nat→Value)(k:Nat)
def z4:Array Value:=#[.int .i64 0,.int .i64 0,.int .i64 0,.slice none 0 0]
theorem w_send(hC:bK C)(hk:k<C.L){w:World}(hw:RoOk C w):Gl (mk0 C (loopA C) LoadA SpA RecA Fin) false dT (SSend (mk0 C (loopA C) LoadA SpA RecA Fin) k) noB (wk6 C.bw C.bn C.bp C.bo (Tf C.bw C.bn C.bp C.bo f) k C.Ap C.L C.cp false) w:=by
 obtain⟨b,off,hA,hb,hcell,hpg,hbro⟩:=hC.page k hk;have hpc:=pcell hC;refine Gl.calms dT0 5 (w6f_calm C.bw C.bn C.bp C.bo f k C.L C.cp C.Ap) ?_;refine Gl.load (X:=(mk0 C (loopA C) LoadA SpA RecA Fin)) (a:=adr C.bp) (v:=.slice C.Ap C.L C.cp) (w7_at C.bw C.bn C.bp C.bo f k C.L C.cp C.Ap) (by kernel_rfl) (fun w₁=>by kernel_rfl) (aF (hw.cell hC.roP hpc) (.inr hC.roP)) (.inr hC.roP) ?_;refine Gl.calms dT0 1 (w8_calm C.bw C.bn C.bp C.bo f k C.L C.cp C.Ap) ?_;refine Gl.quiet (X:=(mk0 C (loopA C) LoadA SpA RecA Fin)) (v:=.pointer (some ⟨b,off+k*1,none⟩)) dT0 (w8_at C.bw C.bn C.bp C.bo f k C.L C.cp C.Ap) (by kernel_rfl) ?_ ?_
 ·have hq:Qt Tryz.prog (execOp (aOf (it Tryz.prog 1 (wk8 C.bw C.bn C.bp C.bo (Tf C.bw C.bn C.bp C.bo f) k C.Ap C.L C.cp))).eval (oOf (it Tryz.prog 1 (wk8 C.bw C.bn C.bp C.bo (Tf C.bw C.bn C.bp C.bo f) k C.Ap C.L C.cp)))) (.value (.pointer (some ⟨b,off+k*1,none⟩))):=by
   rw[w8_op,hA];exact(qt_indexAt (P:=Tryz.prog) (e:=25) (by kernel_rfl) (by kernel_rfl) hk).bind (.pure _)
  exact hq
 have e9:fin (it (mk0 C (loopA C) LoadA SpA RecA Fin).P 1 (fin (it (mk0 C (loopA C) LoadA SpA RecA Fin).P 5 (wk6 C.bw C.bn C.bp C.bo (Tf C.bw C.bn C.bp C.bo f) k C.Ap C.L C.cp false)) (.slice C.Ap C.L C.cp))) (.pointer (some ⟨b,off+k*1,none⟩))=wk9 C.bw C.bn C.bp C.bo (Tf C.bw C.bn C.bp C.bo f) k b off C.L C.cp:=by
  rw[hA];rfl
 rw[e9];refine Gl.load (X:=(mk0 C (loopA C) LoadA SpA RecA Fin)) (a:=⟨b,off+k*1,none⟩) (v:=C.pv k) (w9_at C.bw C.bn C.bp C.bo f k C.L C.cp b off) (by kernel_rfl) (fun w₁=>by kernel_rfl) (aF (hw.cell hb (by rw[Nat.mul_one];exact hcell)) (.inr hb)) (.inr hb) ?_;refine Gl.calms dT0 1 (w11_calm C.bw C.bn C.bp C.bo f k C.L C.cp b off (C.pv k)) ?_;show Gl (mk0 C (loopA C) LoadA SpA RecA Fin) false dT _ noB (it Tryz.prog 1 (wk11 C.bw C.bn C.bp C.bo (Tf C.bw C.bn C.bp C.bo f) k b off C.L C.cp (C.pv k))) w;rw[w11_it];refine Gl.open (X:=(mk0 C (loopA C) LoadA SpA RecA Fin)) (st:=C.ro) rfl (hpg.mono fun x hx=>hw.at_ x (hbro x hx)) hbro (fun x hx=>hx.elim) (fun x hx=>⟨hx,hw.lt x hx⟩) ?_;intro own1 A n c w₁ has hsy;have hw1:RoOk C w₁:=⟨fun x hx=>(hsy.atS x hx).trans (hw.at_ x hx),fun x hx=>Nat.lt_of_lt_of_le (hw.lt x hx) hsy.size⟩;show Gl (mk0 C (loopA C) LoadA SpA RecA Fin) false dT _ _ (G ((wk11 C.bw C.bn C.bp C.bo (Tf C.bw C.bn C.bp C.bo f) k b off C.L C.cp (C.pv k)).frame.finish (.tuple #[.agg #[.int .i64 (opn (C.pg k)).1,.int .i64 (opn (C.pg k)).2.1,.int .i64 (opn (C.pg k)).2.2.1,.slice A n c],.int .i64 (opn (C.pg k)).2.2.2])) (wk11 C.bw C.bn C.bp C.bo (Tf C.bw C.bn C.bp C.bo f) k b off C.L C.cp (C.pv k)).callers) w₁;rw[w12_eq];refine Gl.calms dT0 3 (w12_calm C.bw C.bn C.bp C.bo f k C.L C.cp b off (C.pv k) _ _ _ _ _) ?_;refine Gl.alloc (X:=(mk0 C (loopA C) LoadA SpA RecA Fin)) (ob:=.cells z4 53 (0,0)) (w13_at C.bw C.bn C.bp C.bo f k C.L C.cp b off (C.pv k) _ _ _ _ _) (by kernel_rfl) (fun w₂=>by kernel_rfl) ?_;intro w₂ h₂ _;have hw2:RoOk C {w₂ with heap:=w₂.heap.push (.cells z4 53 (0,0))}:=(hw1.rely h₂).push;have hnr:¬ C.ro w₂.heap.size:=fun h=>absurd ((hw1.rely h₂).lt _ h) (by omega);refine Gl.store (X:=(mk0 C (loopA C) LoadA SpA RecA Fin)) (ty:=53) (t:=53) (b:=w₂.heap.size) (old:=z4) (new:=#[.int .i64 (opn (C.pg k)).1,.int .i64 (opn (C.pg k)).2.1,.int .i64 (opn (C.pg k)).2.2.1,.slice A n c]) (w14_at C.bw C.bn C.bp C.bo f k C.L C.cp b off (C.pv k) _ _ _ _ _ _) (by kernel_rfl) (x:=.tmp 5) (y:=.tmp 19) (by kernel_rfl) (by kernel_rfl) (by kernel_rfl) (by simp) (.inr rfl) (by kernel_rfl) rfl (by kernel_rfl) ?_;intro w₃ h₃ _;have hw3:RoOk C (w₃.setRow w₂.heap.size #[.int .i64 (opn (C.pg k)).1,.int .i64 (opn (C.pg k)).2.1,.int .i64 (opn (C.pg k)).2.2.1,.slice A n c]):=(hw2.rely h₃).setRow hnr;have hb3:w₃.heap[w₂.heap.size]? = some (.cells z4 53 (0,0)):=(h₃.rel.keep _ (.inl (.inr rfl)) (by simp)).trans (by simp);refine Gl.calms dT0 3 (w15_calm C.bw C.bn C.bp C.bo f k C.L C.cp b off (C.pv k) _ _ _ _ _ _) ?_;refine Gl.load (X:=(mk0 C (loopA C) LoadA SpA RecA Fin)) (a:=adr C.bo) (v:=.chan (some C.bc)) (w16_at C.bw C.bn C.bp C.bo f k C.L C.cp b off (C.pv k) _ _ _ _ _ _) (by kernel_rfl) (fun w₁=>by kernel_rfl) (aF (hw3.cell hC.roO (ocell hC)) (.inr hC.roO)) (.inr hC.roO) ?_;refine Gl.calms dT0 1 (w17_calm C.bw C.bn C.bp C.bo f k C.L C.cp b off (C.pv k) _ _ _ _ _ _ _) ?_;refine Gl.loadRow (X:=(mk0 C (loopA C) LoadA SpA RecA Fin)) (ty:=53) (t:=53) (b:=w₂.heap.size) (x:=.tmp 5) (cs:=#[.int .i64 (opn (C.pg k)).1,.int .i64 (opn (C.pg k)).2.1,.int .i64 (opn (C.pg k)).2.2.1,.slice A n c]) (fz:=(0,0)) (d:=(Tryz.prog.underlying 53).getD default) (w18_at C.bw C.bn C.bp C.bo f k C.L C.cp b off (C.pv k) _ _ _ _ _ _ _) (by kernel_rfl) (by kernel_rfl) (by kernel_rfl) (setRow_heap w₃ _ z4 _ _ _ hb3) (.inl (.inr rfl)) (by kernel_rfl) (by kernel_rfl) (by kernel_rfl) ?_;refine Gl.calms dT0 2 (w19_calm C.bw C.bn C.bp C.bo f k C.L C.cp b off (C.pv k) _ _ _ _ _ _ _) ?_;refine .stop fun w₄ h₄=>?_;have hw4:=hw3.rely h₄;obtain⟨z,hz⟩:=w20_send C.bw C.bn C.bp C.bo f k C.L C.cp b off (C.pv k) (opn (C.pg k)).1 (opn (C.pg k)).2.1 (opn (C.pg k)).2.2.1 (opn (C.pg k)).2.2.2 (.slice A n c) w₂.heap.size C.bc w₄;refine⟨by kernel_rfl,_,z,noB,⟨fun b h=>h,A,n,c,rfl⟩,fun b h=>h.elim,fun b h=>h.elim,hz,fun w₅ h₅=>⟨hw4.rely h₅,_,w20_served C.bw C.bn C.bp C.bo f k C.L C.cp b off (C.pv k) (opn (C.pg k)).1 (opn (C.pg k)).2.1 (opn (C.pg k)).2.2.1 (opn (C.pg k)).2.2.2 (.slice A n c) w₂.heap.size C.bc⟩⟩
theorem w_add(hC:bK C){w:World}(hw:RoOk C w):SAdd (mk0 C (loopA C) LoadA SpA RecA Fin) noB (wk1 C.bw C.bn C.bp C.bo (Tf C.bw C.bn C.bp C.bo f)) w:=by
 refine⟨by kernel_rfl,fun c hc hn=>?_⟩;have hn:w.heap[C.bn]? = some (nxObj c):=hn;have h:=step_add (main:=false) (w1_at C.bw C.bn C.bp C.bo f) e_addI64 (w1_x C.bw C.bn C.bp C.bo f).1 (w1_x C.bw C.bn C.bp C.bo f).2 (nx_c hn) (nx_fz hn 0);rw[show IntKind.i64.wrap ((c:Int)+1)=c+1 by rw[IntKind.wrap_i64];omega,nx_set hn]at h;have hw1:RoOk C (put w C.bn (nxObj (c+1))):=hw.put hC.roN;refine⟨_,_,h,evS2,fun hl=>?_,fun hl=>?_⟩
 ·refine w_to6 f c _ hC hc hw1 ?_
  rw[show decide ((C.L:Int)≤(c:Int))=false from decide_eq_false (by have:c<C.L:=hl;omega)];exact w_send f c hC hl hw1
 ·refine w_to6 f c _ hC hc hw1 ?_
  rw[show decide ((C.L:Int)≤(c:Int))=true from decide_eq_true (by have:C.L≤c:=hl;omega)];exact w_rel f c
end
theorem w_loop(hC:bK C)(g:Goroutine)(w:World)(h:loopA C g w):Gl (mk0 C (loopA C) LoadA SpA RecA Fin) false dT (SAdd (mk0 C (loopA C) LoadA SpA RecA Fin)) noB g w:=by
 obtain⟨hw,f,rfl⟩:=h;refine Gl.calms dT0 17 (wS_calm C.bw C.bn C.bp C.bo f) ?_;show Gl (mk0 C (loopA C) LoadA SpA RecA Fin) false dT _ noB (it Tryz.prog 17 (wkS C.bw C.bn C.bp C.bo (Tf C.bw C.bn C.bp C.bo f))) w;rw[wS_it];exact .stop fun w₁ h₁=>w_add f hC (hw.rely h₁)
theorem w_new(hC:bK C){w:World}(hw:RoOk C w):Gl (mk0 C (loopA C) LoadA SpA RecA Fin) false dT (SAdd (mk0 C (loopA C) LoadA SpA RecA Fin)) noB (wkN C.bw C.bn C.bp C.bo) w:=by
 refine Gl.calms dT0 21 (wN_calm C.bw C.bn C.bp C.bo) ?_;show Gl (mk0 C (loopA C) LoadA SpA RecA Fin) false dT _ noB (it Tryz.prog 21 (wkN C.bw C.bn C.bp C.bo)) w;rw[wN_it];exact .stop fun w₁ h₁=>w_add _ hC (hw.rely h₁)
end
end Ph
namespace Ph
open Conc Co Cl
def Tg(bw:Nat)(f:Nat→Value):Array Value:=#[pw bw,f 1,f 2,f 3,f 4,f 5,f 6,f 7,f 8,f 9,f 10,f 11,f 12,f 13,f 14,f 15,f 16,f 17,f 18,f 19,f 20,f 21,f 22,f 23,f 24,f 25,f 26,f 27,f 28,f 29,f 30,f 31,f 32,f 33,f 34,f 35,f 36,f 37,f 38,f 39,f 40,f 41,f 42,f 43,f 44,f 45,f 46,f 47,f 48,f 49,f 50,f 51,f 52,f 53,f 54,f 55,f 56,f 57,f 58,f 59,f 60,f 61,f 62,f 63,f 64,f 65,f 66,f 67,f 68,f 69,f 70,f 71,f 72,f 73,f 74,f 75,f 76,f 77,f 78,f 79,f 80,f 81,f 82,f 83]
section
variable (bw bo:Nat)
def clN:Goroutine:=newG 52 #[pw bw,pw bo]
def cl0:Goroutine:=it Tryz.prog 7 (clN bw bo)
def cl1:Goroutine:=fin (cl0 bw bo) (.tuple #[])
def clC:Goroutine:=it Tryz.prog 19 (cl1 bw bo)
def clW:Frame:=((clC bw bo).callers[0]?).getD default
def clB:List Frame:=(clC bw bo).callers.drop 1
def clL(f:Nat→Value):Goroutine:={clC bw bo with callers:={clW bw bo with tmps:=Tg bw f}::clB bw bo}
theorem clN_calm:Calms Tryz.prog false 7 (clN bw bo):=by
 iterate 7 refine⟨by kernel_rfl,fun _=>by kernel_rfl,?_⟩
 trivial
theorem cl0_at:AtCall (cl0 bw bo) 67 #[] :=
 ⟨by unfold AtOp;kernel_rfl,⟨oOf (cl0 bw bo),by kernel_rfl,by kernel_rfl,(match (oOf (cl0 bw bo)).op with|.call c=>c.argTypes|_=>#[]),by kernel_rfl⟩,by rw[show(cl0 bw bo).frame.kind=.normal by kernel_rfl];simp⟩
theorem cl1_calm:Calms Tryz.prog false 19 (cl1 bw bo):=by
 iterate 19 refine⟨by kernel_rfl,fun _=>by kernel_rfl,?_⟩
 trivial
theorem cl1_it:it Tryz.prog 19 (cl1 bw bo)=clL bw bo (fun i=>(clW bw bo).tmps.getD i undef):=by kernel_rfl
variable (f:Nat→Value)
theorem clL_at:AtCall (clL bw bo f) 98 #[.tmp 5] :=
 ⟨by unfold AtOp;kernel_rfl,⟨oOf (clL bw bo f),by kernel_rfl,by kernel_rfl,(match (oOf (clL bw bo f)).op with|.call c=>c.argTypes|_=>#[]),by kernel_rfl⟩,by rw[show(clL bw bo f).frame.kind=.normal by kernel_rfl];simp⟩
theorem clL_x:(aOf (clL bw bo f)).eval (.tmp 5)=.pointer (some (adr bw)):=by kernel_rfl
def clZ:Goroutine:=it Tryz.prog 31 (fin (clL bw bo f) (.int .u64 0))
theorem clZ_calm:Calms Tryz.prog false 31 (fin (clL bw bo f) (.int .u64 0)):=by
 iterate 31 refine⟨by kernel_rfl,fun _=>by kernel_rfl,?_⟩
 trivial
end
end Ph
namespace Ph
open Conc Co Cl
def tA(n:Nat)(g:Goroutine):Goroutine:=it Tryz.prog n (fin g (.tuple #[]))
def tB(bw n:Nat)(g:Goroutine):Goroutine:=fin (tA n g) (.pointer (some (adr bw)))
def tC(bw n m:Nat)(g:Goroutine):Goroutine:=it Tryz.prog m (fin (tB bw n g) (.tuple #[]))
def tD(bw n m:Nat)(g:Goroutine)(bc:Nat):Goroutine:=fin (tC bw n m g) (.chan (some bc))
def cArgs(g:Goroutine):Array Operand:=match (oOf g).op with|.call c=>c.args|_=>#[]
def cTys(g:Goroutine):Array TypeId:=match (oOf g).op with|.call c=>c.argTypes|_=>#[]
def cX(g:Goroutine):Operand:=match (oOf g).op with|.convert _ _ x=>x|_=>.tmp 0
structure Tail(bw bo n m:Nat)(g:Goroutine):Prop where
 r1:g.status=.running
 at1:AtCall g 68 #[]
 c2:Calms Tryz.prog false n (fin g (.tuple #[]))
 r2:(tA n g).status=.running
 at2:AtO (tA n g) (oOf (tA n g))
 op2:(oOf (tA n g)).op=.convert 139 127 (cX (tA n g))
 x2:(aOf (tA n g)).eval (cX (tA n g))=.pointer (some (adr bw))
 r3:(tB bw n g).status=.running
 at3:AtCall (tB bw n g) 84 (cArgs (tB bw n g))
 x3:((cArgs (tB bw n g)).map (aOf (tB bw n g)).eval)[0]? = some (.pointer (some (adr bw)))
 c3:Calms Tryz.prog false m (fin (tB bw n g) (.tuple #[]))
 r4:(tC bw n m g).status=.running
 at4:AtO (tC bw n m g) (oOf (tC bw n m g))
 rt4:∀ w₁:World,(execOp (aOf (tC bw n m g)).eval (oOf (tC bw n m g))).runT Tryz.prog w₁ #[]=match w₁.cell? (adr bo) with
  |some v=>(.ok (.value v) w₁,#[⟨.cell (adr bo),false,false⟩])
  |none=>(match w₁.farLoad Tryz.prog (adr bo) false with
   |.ok (v,l)=>(.ok (.value v) w₁,#[]++l.toArray.map (⟨.cell ·,false,false⟩))
   |.error h=>(.halt h w₁,#[]))
 r5:∀ bc,(tD bw n m g bc).status=.running
 w5:∀ bc,mayWake Tryz.prog (tD bw n m g bc)=true
 at5:∀ bc,AtO (tD bw n m g bc) (oOf (tD bw n m g bc))
 op5:∀ bc,(oOf (tD bw n m g bc)).op=.call {callee:=.builtin .close,args:=#[(cArgs (tD bw n m g bc))[0]?.getD (.tmp 0)],argTypes:=cTys (tD bw n m g bc)}
 x5:∀ bc,(aOf (tD bw n m g bc)).eval ((cArgs (tD bw n m g bc))[0]?.getD (.tmp 0))=.chan (some bc)
 n5:∀ bc,(Tryz.prog.funcs[(tD bw n m g bc).frame.fn]?).any (·.norace)=false
 c6:∀ bc,Calms Tryz.prog false 4 (fin (tD bw n m g bc) (.tuple #[]))
 e6:∀ bc,(it Tryz.prog 4 (fin (tD bw n m g bc) (.tuple #[]))).status=.finished
theorem step_close{P:Program}{main:Bool}{g:Goroutine}{o:Oper}{x:Operand}{ats:Array TypeId}{c cap s r:Nat}{buf:Array Value}{tm:Bool}{w:World}(h:AtO g o)(hop:o.op=.call {callee:=.builtin .close,args:=#[x],argTypes:=ats})(hx:(aOf g).eval x=.chan (some c))(hc:w.heap[c]? = some (.chan cap buf false s r tm))(hq:(P.funcs[g.frame.fn]?).any (·.norace)=false) :
 stepG P main g w=.go (fin g (.tuple #[])) (w.setChan c cap buf true s r tm) (closeEvents c):=by
 rw[←fZ h.at_ h.op];exact h.at_.step (stepG_close h.op h.want h.kind hop hx hc hq)
section
variable {C:Cfg}{LoopA LoadA:Goroutine→World→Prop}{SpA:Nat→Bl→Goroutine→World→Prop}{RecA Fin:List Nat→Bl→Bl→Goroutine→World→Prop}{n m:Nat}{g:Goroutine}
theorem tail_close(h:Tail C.bw C.bo n m g)(w:World):CClose (mk0 C LoopA LoadA SpA RecA Fin) noB (tD C.bw n m g C.bc) w:=by
 refine⟨h.r5 _,h.w5 _,fun buf s r hc=>?_⟩;exact⟨_,_,step_close (h.at5 C.bc) (h.op5 C.bc) (h.x5 C.bc) hc (h.n5 C.bc),rfl,_,QuitsD.calms 4 (h.c6 C.bc) (q:=0) ⟨h.e6 C.bc,rfl⟩⟩
theorem tail_acq(hC:bK C)(h:Tail C.bw C.bo n m g)(w:World)(hw:RoOk C w):CAcq (mk0 C LoopA LoadA SpA RecA Fin) noB (tB C.bw n g) w:=by
 refine⟨h.r3,_,iK .acquire (by simp) h.at3 e_acquire h.x3,?_⟩;exact Gl.calms dT0 m h.c3 (Gl.load (X:=(mk0 C LoopA LoadA SpA RecA Fin)) (a:=adr C.bo) (v:=.chan (some C.bc)) h.at4 h.r4 h.rt4 (aF (hw.cell hC.roO (ocell hC)) (.inr hC.roO)) (.inr hC.roO) (.stop fun w₁ _=>tail_close h w₁))
theorem tail_enab(hC:bK C)(h:Tail C.bw C.bo n m g)(w:World)(hw:RoOk C w):CEnab (mk0 C LoopA LoadA SpA RecA Fin) noB g w:=by
 refine⟨h.r1,_,jv .enable (by simp) h.at1 e_enable,?_⟩;refine Gl.calms dT0 n h.c2 (Gl.conv dT0 h.at2 h.r2 h.op2 h.x2 (t:=118) (by kernel_rfl) (by kernel_rfl) (by kernel_rfl) ?_ (.stop fun w₁ h₁=>tail_acq hC h w₁ (hw.rely h₁)));rintro w₁ ⟨_,⟨st,sm,hw⟩,_⟩;exact⟨_,wg_st hw⟩
end
theorem clZ_tail(bw bo:Nat)(f:Nat→Value):Tail bw bo 3 22 (clZ bw bo f) where
 r1:=by kernel_rfl
 at1:=⟨by unfold AtOp;kernel_rfl,⟨oOf (clZ bw bo f),by kernel_rfl,by kernel_rfl,#[],by kernel_rfl⟩,by rw[show(clZ bw bo f).frame.kind=.normal by kernel_rfl];simp⟩
 c2:=by
  iterate 3 refine⟨by kernel_rfl,fun _=>by kernel_rfl,?_⟩
  trivial
 r2:=by kernel_rfl
 at2:=⟨by unfold AtOp;kernel_rfl,by kernel_rfl,by kernel_rfl,by rw[show(tA 3 (clZ bw bo f)).frame.kind=.normal by kernel_rfl];simp⟩
 op2:=by kernel_rfl
 x2:=by kernel_rfl
 r3:=by kernel_rfl
 at3:=⟨by unfold AtOp;kernel_rfl,⟨oOf (tB bw 3 (clZ bw bo f)),by kernel_rfl,by kernel_rfl,cTys (tB bw 3 (clZ bw bo f)),by kernel_rfl⟩,by rw[show(tB bw 3 (clZ bw bo f)).frame.kind=.normal by kernel_rfl];simp⟩
 x3:=by kernel_rfl
 c3:=by
  iterate 22 refine⟨by kernel_rfl,fun _=>by kernel_rfl,?_⟩
  trivial
 r4:=by kernel_rfl
 at4:=⟨by unfold AtOp;kernel_rfl,by kernel_rfl,by kernel_rfl,by rw[show(tC bw 3 22 (clZ bw bo f)).frame.kind=.deferred by kernel_rfl];simp⟩
 rt4:=fun w₁=>by kernel_rfl
 r5:=fun bc=>by kernel_rfl
 w5:=fun bc=>by kernel_rfl
 at5:=fun bc=>⟨by unfold AtOp;kernel_rfl,by kernel_rfl,by kernel_rfl,by rw[show(tD bw 3 22 (clZ bw bo f) bc).frame.kind=.deferred by kernel_rfl];simp⟩
 op5:=fun bc=>by kernel_rfl
 x5:=fun bc=>by kernel_rfl
 n5:=fun bc=>by kernel_rfl
 c6:=fun bc=>by
  iterate 4 refine⟨by kernel_rfl,fun _=>by kernel_rfl,?_⟩
  trivial
 e6:=fun bc=>by kernel_rfl
end Ph
namespace Ph
open Conc Co Cl
section
variable (bw bo:Nat)(f:Nat→Value)(S:Int)
def clK:Goroutine:=it Tryz.prog 48 (fin (clL bw bo f) (.int .u64 S))
def clH:Goroutine:=it Tryz.prog 19 (fin (clK bw bo f S) (.bool true))
def clHb:Goroutine:=fin (clH bw bo f S) (.pointer (some ⟨bw,1,none⟩))
def clS:Goroutine:=it Tryz.prog 23 (fin (clHb bw bo f S) (.tuple #[]))
def clS2:Goroutine:=it Tryz.prog 16 (fin (clS bw bo f S) (.tuple #[]))
def clE:Goroutine:=it Tryz.prog 11 (fin (clS2 bw bo f S) (.int .u64 0))
def clMf:Nat→Value:=fun i=>((it Tryz.prog 25 (fin (clK bw bo f S) (.bool false))).callers[0]?.getD default).tmps.getD i undef
end
structure Hit(S:Int)(bw bo:Nat)(f:Nat→Value):Prop where
 c1:Calms Tryz.prog false 48 (fin (clL bw bo f) (.int .u64 S))
 r1:(clK bw bo f S).status=.running
 at1:AtCall (clK bw bo f S) 103 #[.tmp 9,.tmp 10,.tmp 11]
 x1:(aOf (clK bw bo f S)).eval (.tmp 9)=.pointer (some (adr bw))∧(aOf (clK bw bo f S)).eval (.tmp 10)=.int .u64 S∧(aOf (clK bw bo f S)).eval (.tmp 11)=.int .u64 (S+1)
 cm:Calms Tryz.prog false 25 (fin (clK bw bo f S) (.bool false))
 em:it Tryz.prog 25 (fin (clK bw bo f S) (.bool false))=clL bw bo (clMf bw bo f S)
 c2:Calms Tryz.prog false 19 (fin (clK bw bo f S) (.bool true))
 r2:(clH bw bo f S).status=.running
 at2:AtO (clH bw bo f S) (oOf (clH bw bo f S))
 op2:(oOf (clH bw bo f S)).op=.convert 145 127 (cX (clH bw bo f S))
 x2:(aOf (clH bw bo f S)).eval (cX (clH bw bo f S))=.pointer (some ⟨bw,1,none⟩)
 r3:(clHb bw bo f S).status=.running
 at3:AtCall (clHb bw bo f S) 87 (cArgs (clHb bw bo f S))
 x3:((cArgs (clHb bw bo f S)).map (aOf (clHb bw bo f S)).eval)[0]? = some (.pointer (some ⟨bw,1,none⟩))
 c4:Calms Tryz.prog false 23 (fin (clHb bw bo f S) (.tuple #[]))
 r4:(clS bw bo f S).status=.running
 o4:(clS bw bo f S).offers=none
 at4:AtCall (clS bw bo f S) 88 (cArgs (clS bw bo f S))
 x4:((cArgs (clS bw bo f S)).map (aOf (clS bw bo f S)).eval)[0]? = some (.pointer (some ⟨bw,1,none⟩))
 c5:Calms Tryz.prog false 16 (fin (clS bw bo f S) (.tuple #[]))
 r5:(clS2 bw bo f S).status=.running
 at5:AtCall (clS2 bw bo f S) 98 #[.tmp 5]
 x5:(aOf (clS2 bw bo f S)).eval (.tmp 5)=.pointer (some (adr bw))
 c6:Calms Tryz.prog false 11 (fin (clS2 bw bo f S) (.int .u64 0))
 tl:Tail bw bo 3 12 (clE bw bo f S)
end Ph
namespace Ph
open Conc Co Cl
theorem clE_tail1(bw bo:Nat)(f:Nat→Value):Tail bw bo 3 12 (clE bw bo f 4294967296) where
 r1:=by kernel_rfl
 at1:=⟨by unfold AtOp;kernel_rfl,⟨oOf (clE bw bo f 4294967296),by kernel_rfl,by kernel_rfl,#[],by kernel_rfl⟩,by rw[show(clE bw bo f 4294967296).frame.kind=.normal by kernel_rfl];simp⟩
 c2:=by
  iterate 3 refine⟨by kernel_rfl,fun _=>by kernel_rfl,?_⟩
  trivial
 r2:=by kernel_rfl
 at2:=⟨by unfold AtOp;kernel_rfl,by kernel_rfl,by kernel_rfl,by rw[show(tA 3 (clE bw bo f 4294967296)).frame.kind=.normal by kernel_rfl];simp⟩
 op2:=by kernel_rfl
 x2:=by kernel_rfl
 r3:=by kernel_rfl
 at3:=⟨by unfold AtOp;kernel_rfl,⟨oOf (tB bw 3 (clE bw bo f 4294967296)),by kernel_rfl,by kernel_rfl,cTys (tB bw 3 (clE bw bo f 4294967296)),by kernel_rfl⟩,by rw[show(tB bw 3 (clE bw bo f 4294967296)).frame.kind=.normal by kernel_rfl];simp⟩
 x3:=by kernel_rfl
 c3:=by
  iterate 12 refine⟨by kernel_rfl,fun _=>by kernel_rfl,?_⟩
  trivial
 r4:=by kernel_rfl
 at4:=⟨by unfold AtOp;kernel_rfl,by kernel_rfl,by kernel_rfl,by rw[show(tC bw 3 12 (clE bw bo f 4294967296)).frame.kind=.deferred by kernel_rfl];simp⟩
 rt4:=fun w₁=>by kernel_rfl
 r5:=fun bc=>by kernel_rfl
 w5:=fun bc=>by kernel_rfl
 at5:=fun bc=>⟨by unfold AtOp;kernel_rfl,by kernel_rfl,by kernel_rfl,by rw[show(tD bw 3 12 (clE bw bo f 4294967296) bc).frame.kind=.deferred by kernel_rfl];simp⟩
 op5:=fun bc=>by kernel_rfl
 x5:=fun bc=>by kernel_rfl
 n5:=fun bc=>by kernel_rfl
 c6:=fun bc=>by
  iterate 4 refine⟨by kernel_rfl,fun _=>by kernel_rfl,?_⟩
  trivial
 e6:=fun bc=>by kernel_rfl
theorem hit1(bw bo:Nat)(f:Nat→Value):Hit 4294967296 bw bo f where
 c1:=by
  iterate 48 refine⟨by kernel_rfl,fun _=>by kernel_rfl,?_⟩
  trivial
 r1:=by kernel_rfl
 at1:=⟨by unfold AtOp;kernel_rfl,⟨oOf (clK bw bo f 4294967296),by kernel_rfl,by kernel_rfl,cTys (clK bw bo f 4294967296),by kernel_rfl⟩,by rw[show(clK bw bo f 4294967296).frame.kind=.normal by kernel_rfl];simp⟩
 x1:=⟨by kernel_rfl,by kernel_rfl,by kernel_rfl⟩
 cm:=by
  iterate 25 refine⟨by kernel_rfl,fun _=>by kernel_rfl,?_⟩
  trivial
 em:=by kernel_rfl
 c2:=by
  iterate 19 refine⟨by kernel_rfl,fun _=>by kernel_rfl,?_⟩
  trivial
 r2:=by kernel_rfl
 at2:=⟨by unfold AtOp;kernel_rfl,by kernel_rfl,by kernel_rfl,by rw[show(clH bw bo f 4294967296).frame.kind=.normal by kernel_rfl];simp⟩
 op2:=by kernel_rfl
 x2:=by kernel_rfl
 r3:=by kernel_rfl
 at3:=⟨by unfold AtOp;kernel_rfl,⟨oOf (clHb bw bo f 4294967296),by kernel_rfl,by kernel_rfl,cTys (clHb bw bo f 4294967296),by kernel_rfl⟩,by rw[show(clHb bw bo f 4294967296).frame.kind=.normal by kernel_rfl];simp⟩
 x3:=by kernel_rfl
 c4:=by
  iterate 23 refine⟨by kernel_rfl,fun _=>by kernel_rfl,?_⟩
  trivial
 r4:=by kernel_rfl
 o4:=by kernel_rfl
 at4:=⟨by unfold AtOp;kernel_rfl,⟨oOf (clS bw bo f 4294967296),by kernel_rfl,by kernel_rfl,cTys (clS bw bo f 4294967296),by kernel_rfl⟩,by rw[show(clS bw bo f 4294967296).frame.kind=.normal by kernel_rfl];simp⟩
 x4:=by kernel_rfl
 c5:=by
  iterate 16 refine⟨by kernel_rfl,fun _=>by kernel_rfl,?_⟩
  trivial
 r5:=by kernel_rfl
 at5:=⟨by unfold AtOp;kernel_rfl,⟨oOf (clS2 bw bo f 4294967296),by kernel_rfl,by kernel_rfl,cTys (clS2 bw bo f 4294967296),by kernel_rfl⟩,by rw[show(clS2 bw bo f 4294967296).frame.kind=.normal by kernel_rfl];simp⟩
 x5:=by kernel_rfl
 c6:=by
  iterate 11 refine⟨by kernel_rfl,fun _=>by kernel_rfl,?_⟩
  trivial
 tl:=clE_tail1 bw bo f
end Ph
