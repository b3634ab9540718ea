/- Texts of this seat,put together: WkNeg. -/
import Derived.Test.YtlaipigilikmbaaGreatDoorMb16
import Derived.Test.YtlaipigilikmbaaGreatDoorMb17
namespace Go.Proofs.YtlaipigilikmbaaGreatDoor
noncomputable section
set_option linter.unusedVariables false
set_option linter.unusedSimpArgs false
namespace Ph
open Conc Co Cl
section
variable (bw:Nat)(c:Frame)(cs:List Frame)
def an7:Goroutine:=it Tryz.prog 103 (an6 bw c cs 1)
theorem an6_calm1:Calms Tryz.prog false 103 (an6 bw c cs 1):=by
 iterate 103 refine⟨by kernel_rfl,fun _=>by kernel_rfl,?_⟩
 trivial
theorem an7_at:AtCall (an7 bw c cs) 98 #[.tmp 5] :=
 ⟨by unfold AtOp;kernel_rfl,⟨oOf (an7 bw c cs),by kernel_rfl,by kernel_rfl,#[176],by kernel_rfl⟩,by rw[show(an7 bw c cs).frame.kind=.normal by kernel_rfl];simp⟩
theorem an7_x:(aOf (an7 bw c cs)).eval (.tmp 5)=.pointer (some (adr bw)):=by kernel_rfl
def an8:Goroutine:=fin (an7 bw c cs) (.int .u64 1)
def an9:Goroutine:=it Tryz.prog 20 (an8 bw c cs)
theorem an8_calm:Calms Tryz.prog false 20 (an8 bw c cs):=by
 iterate 20 refine⟨by kernel_rfl,fun _=>by kernel_rfl,?_⟩
 trivial
theorem an9_at:AtCall (an9 bw c cs) 99 #[.tmp 6,.tmp 7] :=
 ⟨by unfold AtOp;kernel_rfl,⟨oOf (an9 bw c cs),by kernel_rfl,by kernel_rfl,#[176,69],by kernel_rfl⟩,by rw[show(an9 bw c cs).frame.kind=.normal by kernel_rfl];simp⟩
theorem an9_x:(aOf (an9 bw c cs)).eval (.tmp 6)=.pointer (some (adr bw))∧(aOf (an9 bw c cs)).eval (.tmp 7)=.int .u64 0:=⟨by kernel_rfl,by kernel_rfl⟩
def an10:Goroutine:=fin (an9 bw c cs) (.tuple #[])
def an11:Goroutine:=it Tryz.prog 27 (an10 bw c cs)
theorem an10_calm:Calms Tryz.prog false 27 (an10 bw c cs):=by
 iterate 27 refine⟨by kernel_rfl,fun _=>by kernel_rfl,?_⟩
 trivial
def an11o:Array Operand:=match (oOf (an11 bw c cs)).op with|.call c=>c.args|_=>#[]
theorem an11_at:AtCall (an11 bw c cs) 78 (an11o bw c cs) :=
 ⟨by unfold AtOp;kernel_rfl,⟨oOf (an11 bw c cs),by kernel_rfl,by kernel_rfl,(match (oOf (an11 bw c cs)).op with|.call c=>c.argTypes|_=>#[]),by kernel_rfl⟩,by rw[show(an11 bw c cs).frame.kind=.normal by kernel_rfl];simp⟩
theorem an11_x:((an11o bw c cs).map (aOf (an11 bw c cs)).eval)[0]? = some (.pointer (some ⟨bw,1,none⟩)):=by kernel_rfl
theorem an11_wake:mayWake Tryz.prog (an11 bw c cs)=true:=by kernel_rfl
def an12:Goroutine:=fin (an11 bw c cs) (.tuple #[])
theorem an12_calm:Calms Tryz.prog false 17 (an12 bw c cs):=by
 iterate 17 refine⟨by kernel_rfl,fun _=>by kernel_rfl,?_⟩
 trivial
def an13:Goroutine:=it Tryz.prog 17 (an12 bw c cs)
theorem an13_step(w:World):stepG Tryz.prog false (an13 bw c cs) w=.go (nextG Tryz.prog (an13 bw c cs)) w #[mk .enable]:=by kernel_rfl
theorem an14_step(w:World):stepG Tryz.prog false (nextG Tryz.prog (an13 bw c cs)) w=.go (G (c.finish (.tuple #[])) cs) w #[]:=by kernel_rfl
end
end Ph
