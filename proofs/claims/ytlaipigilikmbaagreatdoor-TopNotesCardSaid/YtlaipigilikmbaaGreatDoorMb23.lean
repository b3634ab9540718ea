/- Texts of this seat,put together: WkPos. -/
import Derived.Test.YtlaipigilikmbaaGreatDoorMb19
namespace Go.Proofs.YtlaipigilikmbaaGreatDoor
noncomputable section
set_option linter.unusedVariables false
set_option linter.unusedSimpArgs false
namespace Ph
open Conc Co Cl
section
variable (bw:Nat)(c:Frame)(cs:List Frame)
def ap:Goroutine:=G (Frame.enter Tryz.prog 47 #[.pointer (some (adr bw)),.int .i64 1] .normal) (c::cs)
def ap0:Goroutine:=it Tryz.prog 12 (ap bw c cs)
theorem ap_calm:Calms Tryz.prog true 12 (ap bw c cs):=by
 iterate 12 refine⟨by kernel_rfl,fun _=>by kernel_rfl,?_⟩
 trivial
theorem ap0_at:AtCall (ap0 bw c cs) 67 #[] :=
 ⟨by unfold AtOp;kernel_rfl,⟨oOf (ap0 bw c cs),by kernel_rfl,by kernel_rfl,#[],by kernel_rfl⟩,by rw[show(ap0 bw c cs).frame.kind=.normal by kernel_rfl];simp⟩
def ap1:Goroutine:=fin (ap0 bw c cs) (.tuple #[])
theorem ap1_calm:Calms Tryz.prog true 34 (ap1 bw c cs):=by
 iterate 34 refine⟨by kernel_rfl,fun _=>by kernel_rfl,?_⟩
 trivial
def ap2:Goroutine:=it Tryz.prog 34 (ap1 bw c cs)
theorem ap2_at:AtCall (ap2 bw c cs) 97 #[.tmp 7,.tmp 8] :=
 ⟨by unfold AtOp;kernel_rfl,⟨oOf (ap2 bw c cs),by kernel_rfl,by kernel_rfl,#[176,69],by kernel_rfl⟩,by rw[show(ap2 bw c cs).frame.kind=.normal by kernel_rfl];simp⟩
theorem ap2_x:(aOf (ap2 bw c cs)).eval (.tmp 7)=.pointer (some (adr bw))∧(aOf (ap2 bw c cs)).eval (.tmp 8)=.int .u64 4294967296:=⟨by kernel_rfl,by kernel_rfl⟩
def ap3(S:Int):Goroutine:=fin (ap2 bw c cs) (.int .u64 S)
def ap4:Goroutine:=it Tryz.prog 52 (ap3 bw c cs 4294967296)
theorem ap3_calm1:Calms Tryz.prog true 52 (ap3 bw c cs 4294967296):=by
 iterate 52 refine⟨by kernel_rfl,fun _=>by kernel_rfl,?_⟩
 trivial
theorem ap4_at:AtO (ap4 bw c cs) (oOf (ap4 bw c cs)) :=
 ⟨by unfold AtOp;kernel_rfl,by kernel_rfl,by kernel_rfl,by rw[show(ap4 bw c cs).frame.kind=.normal by kernel_rfl];simp⟩
theorem ap4_op:(oOf (ap4 bw c cs)).op=.convert 145 127 (.tmp 70):=by kernel_rfl
theorem ap4_x:(aOf (ap4 bw c cs)).eval (.tmp 70)=.pointer (some ⟨bw,1,none⟩):=by kernel_rfl
def ap5:Goroutine:=fin (ap4 bw c cs) (.pointer (some ⟨bw,1,none⟩))
theorem ap5_at:AtCall (ap5 bw c cs) 74 #[.tmp 71] :=
 ⟨by unfold AtOp;kernel_rfl,⟨oOf (ap5 bw c cs),by kernel_rfl,by kernel_rfl,#[127],by kernel_rfl⟩,by rw[show(ap5 bw c cs).frame.kind=.normal by kernel_rfl];simp⟩
theorem ap5_x:((#[.tmp 71]:Array Operand).map (aOf (ap5 bw c cs)).eval)[0]? = some (.pointer (some ⟨bw,1,none⟩)):=by kernel_rfl
def ap6:Goroutine:=fin (ap5 bw c cs) (.tuple #[])
theorem ap6_calm:Calms Tryz.prog true 39 (ap6 bw c cs):=by
 iterate 39 refine⟨by kernel_rfl,fun _=>by kernel_rfl,?_⟩
 trivial
def ap7:Goroutine:=it Tryz.prog 39 (ap6 bw c cs)
theorem ap7_step(w:World):stepG Tryz.prog true (ap7 bw c cs) w=.go (nextG Tryz.prog (ap7 bw c cs)) w #[mk .enable]:=by kernel_rfl
theorem ap8_step(w:World):stepG Tryz.prog true (nextG Tryz.prog (ap7 bw c cs)) w=.go (G (c.finish (.tuple #[])) cs) w #[]:=by kernel_rfl
end
def APQ(S:Int):Prop:=∀ bw c cs,Calms Tryz.prog true 87 (ap3 bw c cs S)∧(it Tryz.prog 87 (ap3 bw c cs S)).status=.running∧(∀w,stepG Tryz.prog true (it Tryz.prog 87 (ap3 bw c cs S)) w=.go (nextG Tryz.prog (it Tryz.prog 87 (ap3 bw c cs S))) w #[mk .enable]) ∧
 (nextG Tryz.prog (it Tryz.prog 87 (ap3 bw c cs S))).status=.running∧(∀w,stepG Tryz.prog true (nextG Tryz.prog (it Tryz.prog 87 (ap3 bw c cs S))) w=.go (G (c.finish (.tuple #[])) cs) w #[])
theorem ap_q2:APQ 8589934592:=by
 intro bw c cs;refine⟨?_,by kernel_rfl,fun _=>by kernel_rfl,by kernel_rfl,fun _=>by kernel_rfl⟩
 iterate 87 refine⟨by kernel_rfl,fun _=>by kernel_rfl,?_⟩
 trivial
theorem ap_q3:APQ 12884901888:=by
 intro bw c cs;refine⟨?_,by kernel_rfl,fun _=>by kernel_rfl,by kernel_rfl,fun _=>by kernel_rfl⟩
 iterate 87 refine⟨by kernel_rfl,fun _=>by kernel_rfl,?_⟩
 trivial
theorem ap_q4:APQ 17179869184:=by
 intro bw c cs;refine⟨?_,by kernel_rfl,fun _=>by kernel_rfl,by kernel_rfl,fun _=>by kernel_rfl⟩
 iterate 87 refine⟨by kernel_rfl,fun _=>by kernel_rfl,?_⟩
 trivial
theorem ap_q5:APQ 21474836480:=by
 intro bw c cs;refine⟨?_,by kernel_rfl,fun _=>by kernel_rfl,by kernel_rfl,fun _=>by kernel_rfl⟩
 iterate 87 refine⟨by kernel_rfl,fun _=>by kernel_rfl,?_⟩
 trivial
theorem ap_q6:APQ 25769803776:=by
 intro bw c cs;refine⟨?_,by kernel_rfl,fun _=>by kernel_rfl,by kernel_rfl,fun _=>by kernel_rfl⟩
 iterate 87 refine⟨by kernel_rfl,fun _=>by kernel_rfl,?_⟩
 trivial
theorem ap_q7:APQ 30064771072:=by
 intro bw c cs;refine⟨?_,by kernel_rfl,fun _=>by kernel_rfl,by kernel_rfl,fun _=>by kernel_rfl⟩
 iterate 87 refine⟨by kernel_rfl,fun _=>by kernel_rfl,?_⟩
 trivial
theorem ap_q8:APQ 34359738368:=by
 intro bw c cs;refine⟨?_,by kernel_rfl,fun _=>by kernel_rfl,by kernel_rfl,fun _=>by kernel_rfl⟩
 iterate 87 refine⟨by kernel_rfl,fun _=>by kernel_rfl,?_⟩
 trivial
theorem ap_q9:APQ 38654705664:=by
 intro bw c cs;refine⟨?_,by kernel_rfl,fun _=>by kernel_rfl,by kernel_rfl,fun _=>by kernel_rfl⟩
 iterate 87 refine⟨by kernel_rfl,fun _=>by kernel_rfl,?_⟩
 trivial
theorem ap_q10:APQ 42949672960:=by
 intro bw c cs;refine⟨?_,by kernel_rfl,fun _=>by kernel_rfl,by kernel_rfl,fun _=>by kernel_rfl⟩
 iterate 87 refine⟨by kernel_rfl,fun _=>by kernel_rfl,?_⟩
 trivial
theorem apq{v:Nat}(hv:v<10)(h0:v≠0):APQ (((v:Int)+1)*KK):=by
 have:v=1∨v=2∨v=3∨v=4∨v=5∨v=6∨v=7∨v=8∨v=9:=by omega
 rcases this with rfl|rfl|rfl|rfl|rfl|rfl|rfl|rfl|rfl
 ·exact ap_q2
 ·exact ap_q3
 ·exact ap_q4
 ·exact ap_q5
 ·exact ap_q6
 ·exact ap_q7
 ·exact ap_q8
 ·exact ap_q9
 ·exact ap_q10
end Ph
