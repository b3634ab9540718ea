/- Texts of this seat,put together: WkHit2,WkHit3,WkHit4,WkHit5. -/
import Derived.Test.YtlaipigilikmbaaGreatDoorMb20
namespace Go.Proofs.YtlaipigilikmbaaGreatDoor
noncomputable section
set_option linter.unusedVariables false
set_option linter.unusedSimpArgs false
namespace Ph
open Conc Co Cl
theorem clE_tail2(bw bo:Nat)(f:Nat→Value):Tail bw bo 3 12 (clE bw bo f 8589934592) where
 r1:=by kernel_rfl
 at1:=⟨by unfold AtOp;kernel_rfl,⟨oOf (clE bw bo f 8589934592),by kernel_rfl,by kernel_rfl,#[],by kernel_rfl⟩,by rw[show(clE bw bo f 8589934592).frame.kind=.normal by kernel_rfl];simp⟩
 c2:=by
  iterate 3 refine⟨by kernel_rfl,fun _=>by kernel_rfl,?_⟩
  trivial
 r2:=by kernel_rfl
 at2:=⟨by unfold AtOp;kernel_rfl,by kernel_rfl,by kernel_rfl,by rw[show(tA 3 (clE bw bo f 8589934592)).frame.kind=.normal by kernel_rfl];simp⟩
 op2:=by kernel_rfl
 x2:=by kernel_rfl
 r3:=by kernel_rfl
 at3:=⟨by unfold AtOp;kernel_rfl,⟨oOf (tB bw 3 (clE bw bo f 8589934592)),by kernel_rfl,by kernel_rfl,cTys (tB bw 3 (clE bw bo f 8589934592)),by kernel_rfl⟩,by rw[show(tB bw 3 (clE bw bo f 8589934592)).frame.kind=.normal by kernel_rfl];simp⟩
 x3:=by kernel_rfl
 c3:=by
  iterate 12 refine⟨by kernel_rfl,fun _=>by kernel_rfl,?_⟩
  trivial
 r4:=by kernel_rfl
 at4:=⟨by unfold AtOp;kernel_rfl,by kernel_rfl,by kernel_rfl,by rw[show(tC bw 3 12 (clE bw bo f 8589934592)).frame.kind=.deferred by kernel_rfl];simp⟩
 rt4:=fun w₁=>by kernel_rfl
 r5:=fun bc=>by kernel_rfl
 w5:=fun bc=>by kernel_rfl
 at5:=fun bc=>⟨by unfold AtOp;kernel_rfl,by kernel_rfl,by kernel_rfl,by rw[show(tD bw 3 12 (clE bw bo f 8589934592) bc).frame.kind=.deferred by kernel_rfl];simp⟩
 op5:=fun bc=>by kernel_rfl
 x5:=fun bc=>by kernel_rfl
 n5:=fun bc=>by kernel_rfl
 c6:=fun bc=>by
  iterate 4 refine⟨by kernel_rfl,fun _=>by kernel_rfl,?_⟩
  trivial
 e6:=fun bc=>by kernel_rfl
theorem hit2(bw bo:Nat)(f:Nat→Value):Hit 8589934592 bw bo f where
 c1:=by
  iterate 48 refine⟨by kernel_rfl,fun _=>by kernel_rfl,?_⟩
  trivial
 r1:=by kernel_rfl
 at1:=⟨by unfold AtOp;kernel_rfl,⟨oOf (clK bw bo f 8589934592),by kernel_rfl,by kernel_rfl,cTys (clK bw bo f 8589934592),by kernel_rfl⟩,by rw[show(clK bw bo f 8589934592).frame.kind=.normal by kernel_rfl];simp⟩
 x1:=⟨by kernel_rfl,by kernel_rfl,by kernel_rfl⟩
 cm:=by
  iterate 25 refine⟨by kernel_rfl,fun _=>by kernel_rfl,?_⟩
  trivial
 em:=by kernel_rfl
 c2:=by
  iterate 19 refine⟨by kernel_rfl,fun _=>by kernel_rfl,?_⟩
  trivial
 r2:=by kernel_rfl
 at2:=⟨by unfold AtOp;kernel_rfl,by kernel_rfl,by kernel_rfl,by rw[show(clH bw bo f 8589934592).frame.kind=.normal by kernel_rfl];simp⟩
 op2:=by kernel_rfl
 x2:=by kernel_rfl
 r3:=by kernel_rfl
 at3:=⟨by unfold AtOp;kernel_rfl,⟨oOf (clHb bw bo f 8589934592),by kernel_rfl,by kernel_rfl,cTys (clHb bw bo f 8589934592),by kernel_rfl⟩,by rw[show(clHb bw bo f 8589934592).frame.kind=.normal by kernel_rfl];simp⟩
 x3:=by kernel_rfl
 c4:=by
  iterate 23 refine⟨by kernel_rfl,fun _=>by kernel_rfl,?_⟩
  trivial
 r4:=by kernel_rfl
 o4:=by kernel_rfl
 at4:=⟨by unfold AtOp;kernel_rfl,⟨oOf (clS bw bo f 8589934592),by kernel_rfl,by kernel_rfl,cTys (clS bw bo f 8589934592),by kernel_rfl⟩,by rw[show(clS bw bo f 8589934592).frame.kind=.normal by kernel_rfl];simp⟩
 x4:=by kernel_rfl
 c5:=by
  iterate 16 refine⟨by kernel_rfl,fun _=>by kernel_rfl,?_⟩
  trivial
 r5:=by kernel_rfl
 at5:=⟨by unfold AtOp;kernel_rfl,⟨oOf (clS2 bw bo f 8589934592),by kernel_rfl,by kernel_rfl,cTys (clS2 bw bo f 8589934592),by kernel_rfl⟩,by rw[show(clS2 bw bo f 8589934592).frame.kind=.normal by kernel_rfl];simp⟩
 x5:=by kernel_rfl
 c6:=by
  iterate 11 refine⟨by kernel_rfl,fun _=>by kernel_rfl,?_⟩
  trivial
 tl:=clE_tail2 bw bo f
end Ph
namespace Ph
open Conc Co Cl
theorem clE_tail3(bw bo:Nat)(f:Nat→Value):Tail bw bo 3 12 (clE bw bo f 12884901888) where
 r1:=by kernel_rfl
 at1:=⟨by unfold AtOp;kernel_rfl,⟨oOf (clE bw bo f 12884901888),by kernel_rfl,by kernel_rfl,#[],by kernel_rfl⟩,by rw[show(clE bw bo f 12884901888).frame.kind=.normal by kernel_rfl];simp⟩
 c2:=by
  iterate 3 refine⟨by kernel_rfl,fun _=>by kernel_rfl,?_⟩
  trivial
 r2:=by kernel_rfl
 at2:=⟨by unfold AtOp;kernel_rfl,by kernel_rfl,by kernel_rfl,by rw[show(tA 3 (clE bw bo f 12884901888)).frame.kind=.normal by kernel_rfl];simp⟩
 op2:=by kernel_rfl
 x2:=by kernel_rfl
 r3:=by kernel_rfl
 at3:=⟨by unfold AtOp;kernel_rfl,⟨oOf (tB bw 3 (clE bw bo f 12884901888)),by kernel_rfl,by kernel_rfl,cTys (tB bw 3 (clE bw bo f 12884901888)),by kernel_rfl⟩,by rw[show(tB bw 3 (clE bw bo f 12884901888)).frame.kind=.normal by kernel_rfl];simp⟩
 x3:=by kernel_rfl
 c3:=by
  iterate 12 refine⟨by kernel_rfl,fun _=>by kernel_rfl,?_⟩
  trivial
 r4:=by kernel_rfl
 at4:=⟨by unfold AtOp;kernel_rfl,by kernel_rfl,by kernel_rfl,by rw[show(tC bw 3 12 (clE bw bo f 12884901888)).frame.kind=.deferred by kernel_rfl];simp⟩
 rt4:=fun w₁=>by kernel_rfl
 r5:=fun bc=>by kernel_rfl
 w5:=fun bc=>by kernel_rfl
 at5:=fun bc=>⟨by unfold AtOp;kernel_rfl,by kernel_rfl,by kernel_rfl,by rw[show(tD bw 3 12 (clE bw bo f 12884901888) bc).frame.kind=.deferred by kernel_rfl];simp⟩
 op5:=fun bc=>by kernel_rfl
 x5:=fun bc=>by kernel_rfl
 n5:=fun bc=>by kernel_rfl
 c6:=fun bc=>by
  iterate 4 refine⟨by kernel_rfl,fun _=>by kernel_rfl,?_⟩
  trivial
 e6:=fun bc=>by kernel_rfl
theorem hit3(bw bo:Nat)(f:Nat→Value):Hit 12884901888 bw bo f where
 c1:=by
  iterate 48 refine⟨by kernel_rfl,fun _=>by kernel_rfl,?_⟩
  trivial
 r1:=by kernel_rfl
 at1:=⟨by unfold AtOp;kernel_rfl,⟨oOf (clK bw bo f 12884901888),by kernel_rfl,by kernel_rfl,cTys (clK bw bo f 12884901888),by kernel_rfl⟩,by rw[show(clK bw bo f 12884901888).frame.kind=.normal by kernel_rfl];simp⟩
 x1:=⟨by kernel_rfl,by kernel_rfl,by kernel_rfl⟩
 cm:=by
  iterate 25 refine⟨by kernel_rfl,fun _=>by kernel_rfl,?_⟩
  trivial
 em:=by kernel_rfl
 c2:=by
  iterate 19 refine⟨by kernel_rfl,fun _=>by kernel_rfl,?_⟩
  trivial
 r2:=by kernel_rfl
 at2:=⟨by unfold AtOp;kernel_rfl,by kernel_rfl,by kernel_rfl,by rw[show(clH bw bo f 12884901888).frame.kind=.normal by kernel_rfl];simp⟩
 op2:=by kernel_rfl
 x2:=by kernel_rfl
 r3:=by kernel_rfl
 at3:=⟨by unfold AtOp;kernel_rfl,⟨oOf (clHb bw bo f 12884901888),by kernel_rfl,by kernel_rfl,cTys (clHb bw bo f 12884901888),by kernel_rfl⟩,by rw[show(clHb bw bo f 12884901888).frame.kind=.normal by kernel_rfl];simp⟩
 x3:=by kernel_rfl
 c4:=by
  iterate 23 refine⟨by kernel_rfl,fun _=>by kernel_rfl,?_⟩
  trivial
 r4:=by kernel_rfl
 o4:=by kernel_rfl
 at4:=⟨by unfold AtOp;kernel_rfl,⟨oOf (clS bw bo f 12884901888),by kernel_rfl,by kernel_rfl,cTys (clS bw bo f 12884901888),by kernel_rfl⟩,by rw[show(clS bw bo f 12884901888).frame.kind=.normal by kernel_rfl];simp⟩
 x4:=by kernel_rfl
 c5:=by
  iterate 16 refine⟨by kernel_rfl,fun _=>by kernel_rfl,?_⟩
  trivial
 r5:=by kernel_rfl
 at5:=⟨by unfold AtOp;kernel_rfl,⟨oOf (clS2 bw bo f 12884901888),by kernel_rfl,by kernel_rfl,cTys (clS2 bw bo f 12884901888),by kernel_rfl⟩,by rw[show(clS2 bw bo f 12884901888).frame.kind=.normal by kernel_rfl];simp⟩
 x5:=by kernel_rfl
 c6:=by
  iterate 11 refine⟨by kernel_rfl,fun _=>by kernel_rfl,?_⟩
  trivial
 tl:=clE_tail3 bw bo f
end Ph
namespace Ph
open Conc Co Cl
theorem clE_tail4(bw bo:Nat)(f:Nat→Value):Tail bw bo 3 12 (clE bw bo f 17179869184) where
 r1:=by kernel_rfl
 at1:=⟨by unfold AtOp;kernel_rfl,⟨oOf (clE bw bo f 17179869184),by kernel_rfl,by kernel_rfl,#[],by kernel_rfl⟩,by rw[show(clE bw bo f 17179869184).frame.kind=.normal by kernel_rfl];simp⟩
 c2:=by
  iterate 3 refine⟨by kernel_rfl,fun _=>by kernel_rfl,?_⟩
  trivial
 r2:=by kernel_rfl
 at2:=⟨by unfold AtOp;kernel_rfl,by kernel_rfl,by kernel_rfl,by rw[show(tA 3 (clE bw bo f 17179869184)).frame.kind=.normal by kernel_rfl];simp⟩
 op2:=by kernel_rfl
 x2:=by kernel_rfl
 r3:=by kernel_rfl
 at3:=⟨by unfold AtOp;kernel_rfl,⟨oOf (tB bw 3 (clE bw bo f 17179869184)),by kernel_rfl,by kernel_rfl,cTys (tB bw 3 (clE bw bo f 17179869184)),by kernel_rfl⟩,by rw[show(tB bw 3 (clE bw bo f 17179869184)).frame.kind=.normal by kernel_rfl];simp⟩
 x3:=by kernel_rfl
 c3:=by
  iterate 12 refine⟨by kernel_rfl,fun _=>by kernel_rfl,?_⟩
  trivial
 r4:=by kernel_rfl
 at4:=⟨by unfold AtOp;kernel_rfl,by kernel_rfl,by kernel_rfl,by rw[show(tC bw 3 12 (clE bw bo f 17179869184)).frame.kind=.deferred by kernel_rfl];simp⟩
 rt4:=fun w₁=>by kernel_rfl
 r5:=fun bc=>by kernel_rfl
 w5:=fun bc=>by kernel_rfl
 at5:=fun bc=>⟨by unfold AtOp;kernel_rfl,by kernel_rfl,by kernel_rfl,by rw[show(tD bw 3 12 (clE bw bo f 17179869184) bc).frame.kind=.deferred by kernel_rfl];simp⟩
 op5:=fun bc=>by kernel_rfl
 x5:=fun bc=>by kernel_rfl
 n5:=fun bc=>by kernel_rfl
 c6:=fun bc=>by
  iterate 4 refine⟨by kernel_rfl,fun _=>by kernel_rfl,?_⟩
  trivial
 e6:=fun bc=>by kernel_rfl
theorem hit4(bw bo:Nat)(f:Nat→Value):Hit 17179869184 bw bo f where
 c1:=by
  iterate 48 refine⟨by kernel_rfl,fun _=>by kernel_rfl,?_⟩
  trivial
 r1:=by kernel_rfl
 at1:=⟨by unfold AtOp;kernel_rfl,⟨oOf (clK bw bo f 17179869184),by kernel_rfl,by kernel_rfl,cTys (clK bw bo f 17179869184),by kernel_rfl⟩,by rw[show(clK bw bo f 17179869184).frame.kind=.normal by kernel_rfl];simp⟩
 x1:=⟨by kernel_rfl,by kernel_rfl,by kernel_rfl⟩
 cm:=by
  iterate 25 refine⟨by kernel_rfl,fun _=>by kernel_rfl,?_⟩
  trivial
 em:=by kernel_rfl
 c2:=by
  iterate 19 refine⟨by kernel_rfl,fun _=>by kernel_rfl,?_⟩
  trivial
 r2:=by kernel_rfl
 at2:=⟨by unfold AtOp;kernel_rfl,by kernel_rfl,by kernel_rfl,by rw[show(clH bw bo f 17179869184).frame.kind=.normal by kernel_rfl];simp⟩
 op2:=by kernel_rfl
 x2:=by kernel_rfl
 r3:=by kernel_rfl
 at3:=⟨by unfold AtOp;kernel_rfl,⟨oOf (clHb bw bo f 17179869184),by kernel_rfl,by kernel_rfl,cTys (clHb bw bo f 17179869184),by kernel_rfl⟩,by rw[show(clHb bw bo f 17179869184).frame.kind=.normal by kernel_rfl];simp⟩
 x3:=by kernel_rfl
 c4:=by
  iterate 23 refine⟨by kernel_rfl,fun _=>by kernel_rfl,?_⟩
  trivial
 r4:=by kernel_rfl
 o4:=by kernel_rfl
 at4:=⟨by unfold AtOp;kernel_rfl,⟨oOf (clS bw bo f 17179869184),by kernel_rfl,by kernel_rfl,cTys (clS bw bo f 17179869184),by kernel_rfl⟩,by rw[show(clS bw bo f 17179869184).frame.kind=.normal by kernel_rfl];simp⟩
 x4:=by kernel_rfl
 c5:=by
  iterate 16 refine⟨by kernel_rfl,fun _=>by kernel_rfl,?_⟩
  trivial
 r5:=by kernel_rfl
 at5:=⟨by unfold AtOp;kernel_rfl,⟨oOf (clS2 bw bo f 17179869184),by kernel_rfl,by kernel_rfl,cTys (clS2 bw bo f 17179869184),by kernel_rfl⟩,by rw[show(clS2 bw bo f 17179869184).frame.kind=.normal by kernel_rfl];simp⟩
 x5:=by kernel_rfl
 c6:=by
  iterate 11 refine⟨by kernel_rfl,fun _=>by kernel_rfl,?_⟩
  trivial
 tl:=clE_tail4 bw bo f
end Ph
namespace Ph
open Conc Co Cl
theorem clE_tail5(bw bo:Nat)(f:Nat→Value):Tail bw bo 3 12 (clE bw bo f 21474836480) where
 r1:=by kernel_rfl
 at1:=⟨by unfold AtOp;kernel_rfl,⟨oOf (clE bw bo f 21474836480),by kernel_rfl,by kernel_rfl,#[],by kernel_rfl⟩,by rw[show(clE bw bo f 21474836480).frame.kind=.normal by kernel_rfl];simp⟩
 c2:=by
  iterate 3 refine⟨by kernel_rfl,fun _=>by kernel_rfl,?_⟩
  trivial
 r2:=by kernel_rfl
 at2:=⟨by unfold AtOp;kernel_rfl,by kernel_rfl,by kernel_rfl,by rw[show(tA 3 (clE bw bo f 21474836480)).frame.kind=.normal by kernel_rfl];simp⟩
 op2:=by kernel_rfl
 x2:=by kernel_rfl
 r3:=by kernel_rfl
 at3:=⟨by unfold AtOp;kernel_rfl,⟨oOf (tB bw 3 (clE bw bo f 21474836480)),by kernel_rfl,by kernel_rfl,cTys (tB bw 3 (clE bw bo f 21474836480)),by kernel_rfl⟩,by rw[show(tB bw 3 (clE bw bo f 21474836480)).frame.kind=.normal by kernel_rfl];simp⟩
 x3:=by kernel_rfl
 c3:=by
  iterate 12 refine⟨by kernel_rfl,fun _=>by kernel_rfl,?_⟩
  trivial
 r4:=by kernel_rfl
 at4:=⟨by unfold AtOp;kernel_rfl,by kernel_rfl,by kernel_rfl,by rw[show(tC bw 3 12 (clE bw bo f 21474836480)).frame.kind=.deferred by kernel_rfl];simp⟩
 rt4:=fun w₁=>by kernel_rfl
 r5:=fun bc=>by kernel_rfl
 w5:=fun bc=>by kernel_rfl
 at5:=fun bc=>⟨by unfold AtOp;kernel_rfl,by kernel_rfl,by kernel_rfl,by rw[show(tD bw 3 12 (clE bw bo f 21474836480) bc).frame.kind=.deferred by kernel_rfl];simp⟩
 op5:=fun bc=>by kernel_rfl
 x5:=fun bc=>by kernel_rfl
 n5:=fun bc=>by kernel_rfl
 c6:=fun bc=>by
  iterate 4 refine⟨by kernel_rfl,fun _=>by kernel_rfl,?_⟩
  trivial
 e6:=fun bc=>by kernel_rfl
theorem hit5(bw bo:Nat)(f:Nat→Value):Hit 21474836480 bw bo f where
 c1:=by
  iterate 48 refine⟨by kernel_rfl,fun _=>by kernel_rfl,?_⟩
  trivial
 r1:=by kernel_rfl
 at1:=⟨by unfold AtOp;kernel_rfl,⟨oOf (clK bw bo f 21474836480),by kernel_rfl,by kernel_rfl,cTys (clK bw bo f 21474836480),by kernel_rfl⟩,by rw[show(clK bw bo f 21474836480).frame.kind=.normal by kernel_rfl];simp⟩
 x1:=⟨by kernel_rfl,by kernel_rfl,by kernel_rfl⟩
 cm:=by
  iterate 25 refine⟨by kernel_rfl,fun _=>by kernel_rfl,?_⟩
  trivial
 em:=by kernel_rfl
 c2:=by
  iterate 19 refine⟨by kernel_rfl,fun _=>by kernel_rfl,?_⟩
  trivial
 r2:=by kernel_rfl
 at2:=⟨by unfold AtOp;kernel_rfl,by kernel_rfl,by kernel_rfl,by rw[show(clH bw bo f 21474836480).frame.kind=.normal by kernel_rfl];simp⟩
 op2:=by kernel_rfl
 x2:=by kernel_rfl
 r3:=by kernel_rfl
 at3:=⟨by unfold AtOp;kernel_rfl,⟨oOf (clHb bw bo f 21474836480),by kernel_rfl,by kernel_rfl,cTys (clHb bw bo f 21474836480),by kernel_rfl⟩,by rw[show(clHb bw bo f 21474836480).frame.kind=.normal by kernel_rfl];simp⟩
 x3:=by kernel_rfl
 c4:=by
  iterate 23 refine⟨by kernel_rfl,fun _=>by kernel_rfl,?_⟩
  trivial
 r4:=by kernel_rfl
 o4:=by kernel_rfl
 at4:=⟨by unfold AtOp;kernel_rfl,⟨oOf (clS bw bo f 21474836480),by kernel_rfl,by kernel_rfl,cTys (clS bw bo f 21474836480),by kernel_rfl⟩,by rw[show(clS bw bo f 21474836480).frame.kind=.normal by kernel_rfl];simp⟩
 x4:=by kernel_rfl
 c5:=by
  iterate 16 refine⟨by kernel_rfl,fun _=>by kernel_rfl,?_⟩
  trivial
 r5:=by kernel_rfl
 at5:=⟨by unfold AtOp;kernel_rfl,⟨oOf (clS2 bw bo f 21474836480),by kernel_rfl,by kernel_rfl,cTys (clS2 bw bo f 21474836480),by kernel_rfl⟩,by rw[show(clS2 bw bo f 21474836480).frame.kind=.normal by kernel_rfl];simp⟩
 x5:=by kernel_rfl
 c6:=by
  iterate 11 refine⟨by kernel_rfl,fun _=>by kernel_rfl,?_⟩
  trivial
 tl:=clE_tail5 bw bo f
end Ph
