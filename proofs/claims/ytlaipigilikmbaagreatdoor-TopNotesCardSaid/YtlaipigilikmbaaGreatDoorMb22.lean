/- Texts of this seat,put together: WkHit6,WkHit7,WkHit8,WkHit9,WkCloser. -/
import Derived.Test.YtlaipigilikmbaaGreatDoorMb20
import Derived.Test.YtlaipigilikmbaaGreatDoorMb21
namespace Go.Proofs.YtlaipigilikmbaaGreatDoor
noncomputable section
set_option linter.unusedVariables false
set_option linter.unusedSimpArgs false
namespace Ph
open Conc Co Cl
theorem clE_tail6(bw bo:Nat)(f:Nat→Value):Tail bw bo 3 12 (clE bw bo f 25769803776) where
 r1:=by kernel_rfl
 at1:=⟨by unfold AtOp;kernel_rfl,⟨oOf (clE bw bo f 25769803776),by kernel_rfl,by kernel_rfl,#[],by kernel_rfl⟩,by rw[show(clE bw bo f 25769803776).frame.kind=.normal by kernel_rfl];simp⟩
 c2:=by
  iterate 3 refine⟨by kernel_rfl,fun _=>by kernel_rfl,?_⟩
  trivial
 r2:=by kernel_rfl
 at2:=⟨by unfold AtOp;kernel_rfl,by kernel_rfl,by kernel_rfl,by rw[show(tA 3 (clE bw bo f 25769803776)).frame.kind=.normal by kernel_rfl];simp⟩
 op2:=by kernel_rfl
 x2:=by kernel_rfl
 r3:=by kernel_rfl
 at3:=⟨by unfold AtOp;kernel_rfl,⟨oOf (tB bw 3 (clE bw bo f 25769803776)),by kernel_rfl,by kernel_rfl,cTys (tB bw 3 (clE bw bo f 25769803776)),by kernel_rfl⟩,by rw[show(tB bw 3 (clE bw bo f 25769803776)).frame.kind=.normal by kernel_rfl];simp⟩
 x3:=by kernel_rfl
 c3:=by
  iterate 12 refine⟨by kernel_rfl,fun _=>by kernel_rfl,?_⟩
  trivial
 r4:=by kernel_rfl
 at4:=⟨by unfold AtOp;kernel_rfl,by kernel_rfl,by kernel_rfl,by rw[show(tC bw 3 12 (clE bw bo f 25769803776)).frame.kind=.deferred by kernel_rfl];simp⟩
 rt4:=fun w₁=>by kernel_rfl
 r5:=fun bc=>by kernel_rfl
 w5:=fun bc=>by kernel_rfl
 at5:=fun bc=>⟨by unfold AtOp;kernel_rfl,by kernel_rfl,by kernel_rfl,by rw[show(tD bw 3 12 (clE bw bo f 25769803776) bc).frame.kind=.deferred by kernel_rfl];simp⟩
 op5:=fun bc=>by kernel_rfl
 x5:=fun bc=>by kernel_rfl
 n5:=fun bc=>by kernel_rfl
 c6:=fun bc=>by
  iterate 4 refine⟨by kernel_rfl,fun _=>by kernel_rfl,?_⟩
  trivial
 e6:=fun bc=>by kernel_rfl
theorem hit6(bw bo:Nat)(f:Nat→Value):Hit 25769803776 bw bo f where
 c1:=by
  iterate 48 refine⟨by kernel_rfl,fun _=>by kernel_rfl,?_⟩
  trivial
 r1:=by kernel_rfl
 at1:=⟨by unfold AtOp;kernel_rfl,⟨oOf (clK bw bo f 25769803776),by kernel_rfl,by kernel_rfl,cTys (clK bw bo f 25769803776),by kernel_rfl⟩,by rw[show(clK bw bo f 25769803776).frame.kind=.normal by kernel_rfl];simp⟩
 x1:=⟨by kernel_rfl,by kernel_rfl,by kernel_rfl⟩
 cm:=by
  iterate 25 refine⟨by kernel_rfl,fun _=>by kernel_rfl,?_⟩
  trivial
 em:=by kernel_rfl
 c2:=by
  iterate 19 refine⟨by kernel_rfl,fun _=>by kernel_rfl,?_⟩
  trivial
 r2:=by kernel_rfl
 at2:=⟨by unfold AtOp;kernel_rfl,by kernel_rfl,by kernel_rfl,by rw[show(clH bw bo f 25769803776).frame.kind=.normal by kernel_rfl];simp⟩
 op2:=by kernel_rfl
 x2:=by kernel_rfl
 r3:=by kernel_rfl
 at3:=⟨by unfold AtOp;kernel_rfl,⟨oOf (clHb bw bo f 25769803776),by kernel_rfl,by kernel_rfl,cTys (clHb bw bo f 25769803776),by kernel_rfl⟩,by rw[show(clHb bw bo f 25769803776).frame.kind=.normal by kernel_rfl];simp⟩
 x3:=by kernel_rfl
 c4:=by
  iterate 23 refine⟨by kernel_rfl,fun _=>by kernel_rfl,?_⟩
  trivial
 r4:=by kernel_rfl
 o4:=by kernel_rfl
 at4:=⟨by unfold AtOp;kernel_rfl,⟨oOf (clS bw bo f 25769803776),by kernel_rfl,by kernel_rfl,cTys (clS bw bo f 25769803776),by kernel_rfl⟩,by rw[show(clS bw bo f 25769803776).frame.kind=.normal by kernel_rfl];simp⟩
 x4:=by kernel_rfl
 c5:=by
  iterate 16 refine⟨by kernel_rfl,fun _=>by kernel_rfl,?_⟩
  trivial
 r5:=by kernel_rfl
 at5:=⟨by unfold AtOp;kernel_rfl,⟨oOf (clS2 bw bo f 25769803776),by kernel_rfl,by kernel_rfl,cTys (clS2 bw bo f 25769803776),by kernel_rfl⟩,by rw[show(clS2 bw bo f 25769803776).frame.kind=.normal by kernel_rfl];simp⟩
 x5:=by kernel_rfl
 c6:=by
  iterate 11 refine⟨by kernel_rfl,fun _=>by kernel_rfl,?_⟩
  trivial
 tl:=clE_tail6 bw bo f
end Ph
namespace Ph
open Conc Co Cl
theorem clE_tail7(bw bo:Nat)(f:Nat→Value):Tail bw bo 3 12 (clE bw bo f 30064771072) where
 r1:=by kernel_rfl
 at1:=⟨by unfold AtOp;kernel_rfl,⟨oOf (clE bw bo f 30064771072),by kernel_rfl,by kernel_rfl,#[],by kernel_rfl⟩,by rw[show(clE bw bo f 30064771072).frame.kind=.normal by kernel_rfl];simp⟩
 c2:=by
  iterate 3 refine⟨by kernel_rfl,fun _=>by kernel_rfl,?_⟩
  trivial
 r2:=by kernel_rfl
 at2:=⟨by unfold AtOp;kernel_rfl,by kernel_rfl,by kernel_rfl,by rw[show(tA 3 (clE bw bo f 30064771072)).frame.kind=.normal by kernel_rfl];simp⟩
 op2:=by kernel_rfl
 x2:=by kernel_rfl
 r3:=by kernel_rfl
 at3:=⟨by unfold AtOp;kernel_rfl,⟨oOf (tB bw 3 (clE bw bo f 30064771072)),by kernel_rfl,by kernel_rfl,cTys (tB bw 3 (clE bw bo f 30064771072)),by kernel_rfl⟩,by rw[show(tB bw 3 (clE bw bo f 30064771072)).frame.kind=.normal by kernel_rfl];simp⟩
 x3:=by kernel_rfl
 c3:=by
  iterate 12 refine⟨by kernel_rfl,fun _=>by kernel_rfl,?_⟩
  trivial
 r4:=by kernel_rfl
 at4:=⟨by unfold AtOp;kernel_rfl,by kernel_rfl,by kernel_rfl,by rw[show(tC bw 3 12 (clE bw bo f 30064771072)).frame.kind=.deferred by kernel_rfl];simp⟩
 rt4:=fun w₁=>by kernel_rfl
 r5:=fun bc=>by kernel_rfl
 w5:=fun bc=>by kernel_rfl
 at5:=fun bc=>⟨by unfold AtOp;kernel_rfl,by kernel_rfl,by kernel_rfl,by rw[show(tD bw 3 12 (clE bw bo f 30064771072) bc).frame.kind=.deferred by kernel_rfl];simp⟩
 op5:=fun bc=>by kernel_rfl
 x5:=fun bc=>by kernel_rfl
 n5:=fun bc=>by kernel_rfl
 c6:=fun bc=>by
  iterate 4 refine⟨by kernel_rfl,fun _=>by kernel_rfl,?_⟩
  trivial
 e6:=fun bc=>by kernel_rfl
theorem hit7(bw bo:Nat)(f:Nat→Value):Hit 30064771072 bw bo f where
 c1:=by
  iterate 48 refine⟨by kernel_rfl,fun _=>by kernel_rfl,?_⟩
  trivial
 r1:=by kernel_rfl
 at1:=⟨by unfold AtOp;kernel_rfl,⟨oOf (clK bw bo f 30064771072),by kernel_rfl,by kernel_rfl,cTys (clK bw bo f 30064771072),by kernel_rfl⟩,by rw[show(clK bw bo f 30064771072).frame.kind=.normal by kernel_rfl];simp⟩
 x1:=⟨by kernel_rfl,by kernel_rfl,by kernel_rfl⟩
 cm:=by
  iterate 25 refine⟨by kernel_rfl,fun _=>by kernel_rfl,?_⟩
  trivial
 em:=by kernel_rfl
 c2:=by
  iterate 19 refine⟨by kernel_rfl,fun _=>by kernel_rfl,?_⟩
  trivial
 r2:=by kernel_rfl
 at2:=⟨by unfold AtOp;kernel_rfl,by kernel_rfl,by kernel_rfl,by rw[show(clH bw bo f 30064771072).frame.kind=.normal by kernel_rfl];simp⟩
 op2:=by kernel_rfl
 x2:=by kernel_rfl
 r3:=by kernel_rfl
 at3:=⟨by unfold AtOp;kernel_rfl,⟨oOf (clHb bw bo f 30064771072),by kernel_rfl,by kernel_rfl,cTys (clHb bw bo f 30064771072),by kernel_rfl⟩,by rw[show(clHb bw bo f 30064771072).frame.kind=.normal by kernel_rfl];simp⟩
 x3:=by kernel_rfl
 c4:=by
  iterate 23 refine⟨by kernel_rfl,fun _=>by kernel_rfl,?_⟩
  trivial
 r4:=by kernel_rfl
 o4:=by kernel_rfl
 at4:=⟨by unfold AtOp;kernel_rfl,⟨oOf (clS bw bo f 30064771072),by kernel_rfl,by kernel_rfl,cTys (clS bw bo f 30064771072),by kernel_rfl⟩,by rw[show(clS bw bo f 30064771072).frame.kind=.normal by kernel_rfl];simp⟩
 x4:=by kernel_rfl
 c5:=by
  iterate 16 refine⟨by kernel_rfl,fun _=>by kernel_rfl,?_⟩
  trivial
 r5:=by kernel_rfl
 at5:=⟨by unfold AtOp;kernel_rfl,⟨oOf (clS2 bw bo f 30064771072),by kernel_rfl,by kernel_rfl,cTys (clS2 bw bo f 30064771072),by kernel_rfl⟩,by rw[show(clS2 bw bo f 30064771072).frame.kind=.normal by kernel_rfl];simp⟩
 x5:=by kernel_rfl
 c6:=by
  iterate 11 refine⟨by kernel_rfl,fun _=>by kernel_rfl,?_⟩
  trivial
 tl:=clE_tail7 bw bo f
end Ph
namespace Ph
open Conc Co Cl
theorem clE_tail8(bw bo:Nat)(f:Nat→Value):Tail bw bo 3 12 (clE bw bo f 34359738368) where
 r1:=by kernel_rfl
 at1:=⟨by unfold AtOp;kernel_rfl,⟨oOf (clE bw bo f 34359738368),by kernel_rfl,by kernel_rfl,#[],by kernel_rfl⟩,by rw[show(clE bw bo f 34359738368).frame.kind=.normal by kernel_rfl];simp⟩
 c2:=by
  iterate 3 refine⟨by kernel_rfl,fun _=>by kernel_rfl,?_⟩
  trivial
 r2:=by kernel_rfl
 at2:=⟨by unfold AtOp;kernel_rfl,by kernel_rfl,by kernel_rfl,by rw[show(tA 3 (clE bw bo f 34359738368)).frame.kind=.normal by kernel_rfl];simp⟩
 op2:=by kernel_rfl
 x2:=by kernel_rfl
 r3:=by kernel_rfl
 at3:=⟨by unfold AtOp;kernel_rfl,⟨oOf (tB bw 3 (clE bw bo f 34359738368)),by kernel_rfl,by kernel_rfl,cTys (tB bw 3 (clE bw bo f 34359738368)),by kernel_rfl⟩,by rw[show(tB bw 3 (clE bw bo f 34359738368)).frame.kind=.normal by kernel_rfl];simp⟩
 x3:=by kernel_rfl
 c3:=by
  iterate 12 refine⟨by kernel_rfl,fun _=>by kernel_rfl,?_⟩
  trivial
 r4:=by kernel_rfl
 at4:=⟨by unfold AtOp;kernel_rfl,by kernel_rfl,by kernel_rfl,by rw[show(tC bw 3 12 (clE bw bo f 34359738368)).frame.kind=.deferred by kernel_rfl];simp⟩
 rt4:=fun w₁=>by kernel_rfl
 r5:=fun bc=>by kernel_rfl
 w5:=fun bc=>by kernel_rfl
 at5:=fun bc=>⟨by unfold AtOp;kernel_rfl,by kernel_rfl,by kernel_rfl,by rw[show(tD bw 3 12 (clE bw bo f 34359738368) bc).frame.kind=.deferred by kernel_rfl];simp⟩
 op5:=fun bc=>by kernel_rfl
 x5:=fun bc=>by kernel_rfl
 n5:=fun bc=>by kernel_rfl
 c6:=fun bc=>by
  iterate 4 refine⟨by kernel_rfl,fun _=>by kernel_rfl,?_⟩
  trivial
 e6:=fun bc=>by kernel_rfl
theorem hit8(bw bo:Nat)(f:Nat→Value):Hit 34359738368 bw bo f where
 c1:=by
  iterate 48 refine⟨by kernel_rfl,fun _=>by kernel_rfl,?_⟩
  trivial
 r1:=by kernel_rfl
 at1:=⟨by unfold AtOp;kernel_rfl,⟨oOf (clK bw bo f 34359738368),by kernel_rfl,by kernel_rfl,cTys (clK bw bo f 34359738368),by kernel_rfl⟩,by rw[show(clK bw bo f 34359738368).frame.kind=.normal by kernel_rfl];simp⟩
 x1:=⟨by kernel_rfl,by kernel_rfl,by kernel_rfl⟩
 cm:=by
  iterate 25 refine⟨by kernel_rfl,fun _=>by kernel_rfl,?_⟩
  trivial
 em:=by kernel_rfl
 c2:=by
  iterate 19 refine⟨by kernel_rfl,fun _=>by kernel_rfl,?_⟩
  trivial
 r2:=by kernel_rfl
 at2:=⟨by unfold AtOp;kernel_rfl,by kernel_rfl,by kernel_rfl,by rw[show(clH bw bo f 34359738368).frame.kind=.normal by kernel_rfl];simp⟩
 op2:=by kernel_rfl
 x2:=by kernel_rfl
 r3:=by kernel_rfl
 at3:=⟨by unfold AtOp;kernel_rfl,⟨oOf (clHb bw bo f 34359738368),by kernel_rfl,by kernel_rfl,cTys (clHb bw bo f 34359738368),by kernel_rfl⟩,by rw[show(clHb bw bo f 34359738368).frame.kind=.normal by kernel_rfl];simp⟩
 x3:=by kernel_rfl
 c4:=by
  iterate 23 refine⟨by kernel_rfl,fun _=>by kernel_rfl,?_⟩
  trivial
 r4:=by kernel_rfl
 o4:=by kernel_rfl
 at4:=⟨by unfold AtOp;kernel_rfl,⟨oOf (clS bw bo f 34359738368),by kernel_rfl,by kernel_rfl,cTys (clS bw bo f 34359738368),by kernel_rfl⟩,by rw[show(clS bw bo f 34359738368).frame.kind=.normal by kernel_rfl];simp⟩
 x4:=by kernel_rfl
 c5:=by
  iterate 16 refine⟨by kernel_rfl,fun _=>by kernel_rfl,?_⟩
  trivial
 r5:=by kernel_rfl
 at5:=⟨by unfold AtOp;kernel_rfl,⟨oOf (clS2 bw bo f 34359738368),by kernel_rfl,by kernel_rfl,cTys (clS2 bw bo f 34359738368),by kernel_rfl⟩,by rw[show(clS2 bw bo f 34359738368).frame.kind=.normal by kernel_rfl];simp⟩
 x5:=by kernel_rfl
 c6:=by
  iterate 11 refine⟨by kernel_rfl,fun _=>by kernel_rfl,?_⟩
  trivial
 tl:=clE_tail8 bw bo f
end Ph
namespace Ph
open Conc Co Cl
theorem clE_tail9(bw bo:Nat)(f:Nat→Value):Tail bw bo 3 12 (clE bw bo f 38654705664) where
 r1:=by kernel_rfl
 at1:=⟨by unfold AtOp;kernel_rfl,⟨oOf (clE bw bo f 38654705664),by kernel_rfl,by kernel_rfl,#[],by kernel_rfl⟩,by rw[show(clE bw bo f 38654705664).frame.kind=.normal by kernel_rfl];simp⟩
 c2:=by
  iterate 3 refine⟨by kernel_rfl,fun _=>by kernel_rfl,?_⟩
  trivial
 r2:=by kernel_rfl
 at2:=⟨by unfold AtOp;kernel_rfl,by kernel_rfl,by kernel_rfl,by rw[show(tA 3 (clE bw bo f 38654705664)).frame.kind=.normal by kernel_rfl];simp⟩
 op2:=by kernel_rfl
 x2:=by kernel_rfl
 r3:=by kernel_rfl
 at3:=⟨by unfold AtOp;kernel_rfl,⟨oOf (tB bw 3 (clE bw bo f 38654705664)),by kernel_rfl,by kernel_rfl,cTys (tB bw 3 (clE bw bo f 38654705664)),by kernel_rfl⟩,by rw[show(tB bw 3 (clE bw bo f 38654705664)).frame.kind=.normal by kernel_rfl];simp⟩
 x3:=by kernel_rfl
 c3:=by
  iterate 12 refine⟨by kernel_rfl,fun _=>by kernel_rfl,?_⟩
  trivial
 r4:=by kernel_rfl
 at4:=⟨by unfold AtOp;kernel_rfl,by kernel_rfl,by kernel_rfl,by rw[show(tC bw 3 12 (clE bw bo f 38654705664)).frame.kind=.deferred by kernel_rfl];simp⟩
 rt4:=fun w₁=>by kernel_rfl
 r5:=fun bc=>by kernel_rfl
 w5:=fun bc=>by kernel_rfl
 at5:=fun bc=>⟨by unfold AtOp;kernel_rfl,by kernel_rfl,by kernel_rfl,by rw[show(tD bw 3 12 (clE bw bo f 38654705664) bc).frame.kind=.deferred by kernel_rfl];simp⟩
 op5:=fun bc=>by kernel_rfl
 x5:=fun bc=>by kernel_rfl
 n5:=fun bc=>by kernel_rfl
 c6:=fun bc=>by
  iterate 4 refine⟨by kernel_rfl,fun _=>by kernel_rfl,?_⟩
  trivial
 e6:=fun bc=>by kernel_rfl
theorem hit9(bw bo:Nat)(f:Nat→Value):Hit 38654705664 bw bo f where
 c1:=by
  iterate 48 refine⟨by kernel_rfl,fun _=>by kernel_rfl,?_⟩
  trivial
 r1:=by kernel_rfl
 at1:=⟨by unfold AtOp;kernel_rfl,⟨oOf (clK bw bo f 38654705664),by kernel_rfl,by kernel_rfl,cTys (clK bw bo f 38654705664),by kernel_rfl⟩,by rw[show(clK bw bo f 38654705664).frame.kind=.normal by kernel_rfl];simp⟩
 x1:=⟨by kernel_rfl,by kernel_rfl,by kernel_rfl⟩
 cm:=by
  iterate 25 refine⟨by kernel_rfl,fun _=>by kernel_rfl,?_⟩
  trivial
 em:=by kernel_rfl
 c2:=by
  iterate 19 refine⟨by kernel_rfl,fun _=>by kernel_rfl,?_⟩
  trivial
 r2:=by kernel_rfl
 at2:=⟨by unfold AtOp;kernel_rfl,by kernel_rfl,by kernel_rfl,by rw[show(clH bw bo f 38654705664).frame.kind=.normal by kernel_rfl];simp⟩
 op2:=by kernel_rfl
 x2:=by kernel_rfl
 r3:=by kernel_rfl
 at3:=⟨by unfold AtOp;kernel_rfl,⟨oOf (clHb bw bo f 38654705664),by kernel_rfl,by kernel_rfl,cTys (clHb bw bo f 38654705664),by kernel_rfl⟩,by rw[show(clHb bw bo f 38654705664).frame.kind=.normal by kernel_rfl];simp⟩
 x3:=by kernel_rfl
 c4:=by
  iterate 23 refine⟨by kernel_rfl,fun _=>by kernel_rfl,?_⟩
  trivial
 r4:=by kernel_rfl
 o4:=by kernel_rfl
 at4:=⟨by unfold AtOp;kernel_rfl,⟨oOf (clS bw bo f 38654705664),by kernel_rfl,by kernel_rfl,cTys (clS bw bo f 38654705664),by kernel_rfl⟩,by rw[show(clS bw bo f 38654705664).frame.kind=.normal by kernel_rfl];simp⟩
 x4:=by kernel_rfl
 c5:=by
  iterate 16 refine⟨by kernel_rfl,fun _=>by kernel_rfl,?_⟩
  trivial
 r5:=by kernel_rfl
 at5:=⟨by unfold AtOp;kernel_rfl,⟨oOf (clS2 bw bo f 38654705664),by kernel_rfl,by kernel_rfl,cTys (clS2 bw bo f 38654705664),by kernel_rfl⟩,by rw[show(clS2 bw bo f 38654705664).frame.kind=.normal by kernel_rfl];simp⟩
 x5:=by kernel_rfl
 c6:=by
  iterate 11 refine⟨by kernel_rfl,fun _=>by kernel_rfl,?_⟩
  trivial
 tl:=clE_tail9 bw bo f
end Ph
namespace Ph
open Conc Co Cl
theorem hits{v:Nat}(hv:v<10)(h0:v≠0)(bw bo:Nat)(f:Nat→Value):Hit ((v:Int)*KK) bw bo f:=by
 have:v=1∨v=2∨v=3∨v=4∨v=5∨v=6∨v=7∨v=8∨v=9:=by omega
 rcases this with rfl|rfl|rfl|rfl|rfl|rfl|rfl|rfl|rfl
 ·exact hit1 bw bo f
 ·exact hit2 bw bo f
 ·exact hit3 bw bo f
 ·exact hit4 bw bo f
 ·exact hit5 bw bo f
 ·exact hit6 bw bo f
 ·exact hit7 bw bo f
 ·exact hit8 bw bo f
 ·exact hit9 bw bo f
def loadA(C:Cfg)(g:Goroutine)(w:World):Prop:=RoOk C w∧∃ f,∃v:Nat,v<10∧v≠0∧g=fin (clK C.bw C.bo f ((v:Int)*KK)) (.bool false)
section
variable {C:Cfg}{LoopA:Goroutine→World→Prop}{SpA:Nat→Bl→Goroutine→World→Prop}{RecA Fin:List Nat→Bl→Bl→Goroutine→World→Prop}
theorem clE_load2(hC:bK C){S:Int}{f:Nat→Value}(h:Hit S C.bw C.bo f)(w:World)(hr:RoOk C w):CLoad2 (mk0 C LoopA (loadA C) SpA RecA Fin) noB (clS2 C.bw C.bo f S) w:=by
 refine⟨h.r5,fun hw=>?_⟩;have hw:w.heap[C.bw]? = some (wgObj 0 0):=hw;exact⟨_,_,oh (main:=false) h.at5 nS h.x5 (wg_st hw),evS1,Gl.calms dT0 11 h.c6 (.stop fun w₁ h₁=>tail_enab hC h.tl w₁ (hr.rely h₁))⟩
theorem clE_sem(hC:bK C){S:Int}{f:Nat→Value}(h:Hit S C.bw C.bo f)(w:World)(hr:RoOk C w):CSem (mk0 C LoopA (loadA C) SpA RecA Fin) noB (clS C.bw C.bo f S) w:=by
 refine⟨h.r4,h.o4,fun⟨st,hw⟩=>?_,fun hw=>?_⟩
 ·have hw:w.heap[C.bw]? = some (wgObj st 0):=hw;exact step_semwait h.at4 lU h.x4 (wg_sm hw)
 ·have hw:w.heap[C.bw]? = some (wgObj 0 1):=hw;have k:=step_semacquire (main:=false) h.at4 lU h.x4 (wg_sm hw) (by omega) (wg_fz hw 1);rw[show(1:Int)-1=0 from rfl,wg_setm hw]at k;exact⟨_,_,k,rfl,Gl.calms dT0 16 h.c5 (.stop fun w₁ h₁=>clE_load2 hC h w₁ ((hr.put hC.roW).rely h₁))⟩
theorem clE_wr(hC:bK C){S:Int}{f:Nat→Value}(h:Hit S C.bw C.bo f)(w:World)(hr:RoOk C w):CWr (mk0 C LoopA (loadA C) SpA RecA Fin) noB (clHb C.bw C.bo f S) w:=by
 refine⟨h.r3,_,iK .write (by simp) h.at3 e_raceWrite h.x3,?_⟩;exact Gl.calms dT0 23 h.c4 (.stop fun w₁ h₁=>clE_sem hC h w₁ (hr.rely h₁))
theorem cl_cas(hC:bK C){vs:Nat}(hvs:vs<10)(h0:vs≠0){f:Nat→Value}(w:World)(hr:RoOk C w):CCas (mk0 C LoopA (loadA C) SpA RecA Fin) vs noB (clK C.bw C.bo f ((vs:Int)*KK)) w:=by
 have h:=hits hvs h0 C.bw C.bo f;refine⟨h.r1,fun v hv hw=>?_⟩;have hw:w.heap[C.bw]? = some (wgObj ((v:Int)*KK) 0):=hw;refine⟨fun e=>?_,fun e=>?_⟩
 ·subst e;have k:=step_cas_hit (main:=false) h.at1 e_casU64 h.x1.1 h.x1.2.1 h.x1.2.2 (wg_st hw) (wg_fz hw 0);rw[wg_set hw]at k;have hr1:RoOk C (put w C.bw (wgObj ((v:Int)*KK+1) 0)):=hr.put hC.roW;refine⟨_,_,k,evS2,Gl.calms dT0 19 h.c2 (Gl.conv dT0 h.at2 h.r2 h.op2 h.x2 (t:=65) (by kernel_rfl) (by kernel_rfl) (by kernel_rfl) ?_ (.stop fun w₁ h₁=>clE_wr hC h w₁ (hr1.rely h₁)))⟩;rintro w₁ ⟨_,⟨st,sm,hw⟩,_⟩;exact⟨_,wg_sm hw⟩
 ·have k:=step_cas_miss (main:=false) h.at1 e_casU64 h.x1.1 h.x1.2.1 h.x1.2.2 (wg_st hw) (wg_fz hw 0) (by unfold KK;omega);exact⟨_,_,k,evS1,fun w₁ h₁=>⟨hr.rely h₁,f,vs,hvs,h0,rfl⟩⟩
theorem cl_load(hC:bK C)(f:Nat→Value)(w:World)(hr:RoOk C w):CLoad (mk0 C LoopA (loadA C) SpA RecA Fin) noB (clL C.bw C.bo f) w:=by
 refine⟨by kernel_rfl,fun v hv hw=>?_⟩;have hw:w.heap[C.bw]? = some (wgObj ((v:Int)*KK) 0):=hw;refine⟨_,_,oh (main:=false) (clL_at C.bw C.bo f) nS (clL_x C.bw C.bo f) (wg_st hw),evS1,fun e=>?_,fun e=>?_⟩
 ·subst e;exact Gl.calms dT0 31 (clZ_calm C.bw C.bo f) (.stop fun w₁ h₁=>tail_enab hC (clZ_tail C.bw C.bo f) w₁ (hr.rely h₁))
 ·exact Gl.calms dT0 48 (hits hv e C.bw C.bo f).c1 (.stop fun w₁ h₁=>cl_cas hC hv e w₁ (hr.rely h₁))
theorem cl_loop(hC:bK C)(g:Goroutine)(w:World)(h:loadA C g w):Gl (mk0 C LoopA (loadA C) SpA RecA Fin) false dT (CLoad (mk0 C LoopA (loadA C) SpA RecA Fin)) noB g w:=by
 obtain⟨hr,f,v,hv,h0,rfl⟩:=h;have h:=hits hv h0 C.bw C.bo f;refine Gl.calms dT0 25 h.cm ?_;show Gl (mk0 C LoopA (loadA C) SpA RecA Fin) false dT _ noB (it Tryz.prog 25 (fin (clK C.bw C.bo f ((v:Int)*KK)) (.bool false))) w;rw[h.em];exact .stop fun w₁ h₁=>cl_load hC _ w₁ (hr.rely h₁)
theorem cl_new(hC:bK C)(w:World)(hr:RoOk C w):Gl (mk0 C LoopA (loadA C) SpA RecA Fin) false dT (CDis (mk0 C LoopA (loadA C) SpA RecA Fin)) noB (clN C.bw C.bo) w:=by
 refine Gl.calms dT0 7 (clN_calm C.bw C.bo) (.stop fun w₁ h₁=>⟨by kernel_rfl,_,jv .disable (by simp) (cl0_at C.bw C.bo) nU,?_⟩);refine Gl.calms dT0 19 (cl1_calm C.bw C.bo) ?_;show Gl (mk0 C LoopA (loadA C) SpA RecA Fin) false dT _ noB (it Tryz.prog 19 (cl1 C.bw C.bo)) w₁;rw[cl1_it];exact .stop fun w₂ h₂=>cl_load hC _ w₂ ((hr.rely h₁).rely h₂)
end
end Ph
