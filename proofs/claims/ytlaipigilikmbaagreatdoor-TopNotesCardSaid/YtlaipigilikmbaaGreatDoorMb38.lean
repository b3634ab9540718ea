/- Texts of this seat,put together: ErC2. -/
import Derived.Test.YtlaipigilikmbaaGreatDoorMb37
namespace Go.Proofs.YtlaipigilikmbaaGreatDoor
noncomputable section
set_option linter.unusedVariables false
set_option linter.unusedSimpArgs false
namespace Ph
open Conc Co Cl
def ldX(g:Goroutine):Operand:=match (oOf g).op with|.load _ x=>x|.store _ x _=>x|_=>.tmp 0
def stY(g:Goroutine):Operand:=match (oOf g).op with|.store _ _ y=>y|_=>.tmp 0
section
variable (n k:Int)(c:Frame)(cs:List Frame)
theorem erP_calm(b b1 b2 b3 b4:Nat):Calms Tryz.prog true 4 (erP n k c cs b b1 b2 b3 b4):=by
 iterate 4 refine⟨by kernel_rfl,fun _=>by kernel_rfl,?_⟩
 trivial
theorem erP_it(b b1 b2 b3 b4:Nat):it Tryz.prog 4 (erP n k c cs b b1 b2 b3 b4)=G (c.finish (.bool (decide (n=k)))) cs:=by kernel_rfl
def en0:Goroutine:=G (Frame.enter Tryz.prog 11 #[.nilIface,.int .i64 k] .normal) (c::cs)
def enP:Goroutine:=fin (it Tryz.prog 31 (en0 k c cs)) (.bool (decide (0=k)))
theorem en0_calm:Calms Tryz.prog true 32 (en0 k c cs):=by
 iterate 32 refine⟨by kernel_rfl,fun _=>by kernel_rfl,?_⟩
 trivial
theorem en0_it:it Tryz.prog 32 (en0 k c cs)=enP k c cs:=by kernel_rfl
theorem enP_calm:Calms Tryz.prog true 4 (enP k c cs):=by
 iterate 4 refine⟨by kernel_rfl,fun _=>by kernel_rfl,?_⟩
 trivial
theorem enP_it:it Tryz.prog 4 (enP k c cs)=G (c.finish (.bool (decide (0=k)))) cs:=by kernel_rfl
variable (b b1 b2 b3 b4:Nat)(w:World)
theorem erA_run:(erA n k c cs).status=.running:=by kernel_rfl
theorem erA_at:AtO (erA n k c cs) (oOf (erA n k c cs)):=⟨by unfold AtOp;kernel_rfl,by kernel_rfl,by kernel_rfl,by rw[show(Goroutine.frame (erA n k c cs)).kind=.normal by kernel_rfl];simp⟩
theorem erB_run:(erB n k c cs b).status=.running:=by kernel_rfl
theorem erB_at:AtO (erB n k c cs b) (oOf (erB n k c cs b)):=⟨by unfold AtOp;kernel_rfl,by kernel_rfl,by kernel_rfl,by rw[show(Goroutine.frame (erB n k c cs b)).kind=.normal by kernel_rfl];simp⟩
theorem erC_run:(erC n k c cs b b1).status=.running:=by kernel_rfl
theorem erC_at:AtO (erC n k c cs b b1) (oOf (erC n k c cs b b1)):=⟨by unfold AtOp;kernel_rfl,by kernel_rfl,by kernel_rfl,by rw[show(Goroutine.frame (erC n k c cs b b1)).kind=.normal by kernel_rfl];simp⟩
theorem erD_run:(erD n k c cs b b1 b2).status=.running:=by kernel_rfl
theorem erD_at:AtO (erD n k c cs b b1 b2) (oOf (erD n k c cs b b1 b2)):=⟨by unfold AtOp;kernel_rfl,by kernel_rfl,by kernel_rfl,by rw[show(Goroutine.frame (erD n k c cs b b1 b2)).kind=.normal by kernel_rfl];simp⟩
theorem erE_run:(erE n k c cs b b1 b2).status=.running:=by kernel_rfl
theorem erE_at:AtO (erE n k c cs b b1 b2) (oOf (erE n k c cs b b1 b2)):=⟨by unfold AtOp;kernel_rfl,by kernel_rfl,by kernel_rfl,by rw[show(Goroutine.frame (erE n k c cs b b1 b2)).kind=.normal by kernel_rfl];simp⟩
theorem erF_run:(erF n k c cs b b1 b2).status=.running:=by kernel_rfl
theorem erF_at:AtO (erF n k c cs b b1 b2) (oOf (erF n k c cs b b1 b2)):=⟨by unfold AtOp;kernel_rfl,by kernel_rfl,by kernel_rfl,by rw[show(Goroutine.frame (erF n k c cs b b1 b2)).kind=.normal by kernel_rfl];simp⟩
theorem erG_run:(erG n k c cs b b1 b2).status=.running:=by kernel_rfl
theorem erG_at:AtO (erG n k c cs b b1 b2) (oOf (erG n k c cs b b1 b2)):=⟨by unfold AtOp;kernel_rfl,by kernel_rfl,by kernel_rfl,by rw[show(Goroutine.frame (erG n k c cs b b1 b2)).kind=.normal by kernel_rfl];simp⟩
theorem erH_run:(erH n k c cs b b1 b2).status=.running:=by kernel_rfl
theorem erH_at:AtO (erH n k c cs b b1 b2) (oOf (erH n k c cs b b1 b2)):=⟨by unfold AtOp;kernel_rfl,by kernel_rfl,by kernel_rfl,by rw[show(Goroutine.frame (erH n k c cs b b1 b2)).kind=.normal by kernel_rfl];simp⟩
theorem erI_run:(erI n k c cs b b1 b2).status=.running:=by kernel_rfl
theorem erI_at:AtO (erI n k c cs b b1 b2) (oOf (erI n k c cs b b1 b2)):=⟨by unfold AtOp;kernel_rfl,by kernel_rfl,by kernel_rfl,by rw[show(Goroutine.frame (erI n k c cs b b1 b2)).kind=.normal by kernel_rfl];simp⟩
theorem erJ_run:(erJ n k c cs b b1 b2).status=.running:=by kernel_rfl
theorem erJ_at:AtO (erJ n k c cs b b1 b2) (oOf (erJ n k c cs b b1 b2)):=⟨by unfold AtOp;kernel_rfl,by kernel_rfl,by kernel_rfl,by rw[show(Goroutine.frame (erJ n k c cs b b1 b2)).kind=.normal by kernel_rfl];simp⟩
theorem erK_run:(erK n k c cs b b1 b2 b3).status=.running:=by kernel_rfl
theorem erK_at:AtO (erK n k c cs b b1 b2 b3) (oOf (erK n k c cs b b1 b2 b3)):=⟨by unfold AtOp;kernel_rfl,by kernel_rfl,by kernel_rfl,by rw[show(Goroutine.frame (erK n k c cs b b1 b2 b3)).kind=.normal by kernel_rfl];simp⟩
theorem erL_run:(erL n k c cs b b1 b2 b3).status=.running:=by kernel_rfl
theorem erL_at:AtO (erL n k c cs b b1 b2 b3) (oOf (erL n k c cs b b1 b2 b3)):=⟨by unfold AtOp;kernel_rfl,by kernel_rfl,by kernel_rfl,by rw[show(Goroutine.frame (erL n k c cs b b1 b2 b3)).kind=.normal by kernel_rfl];simp⟩
theorem erM_run:(erM n k c cs b b1 b2 b3).status=.running:=by kernel_rfl
theorem erM_at:AtO (erM n k c cs b b1 b2 b3) (oOf (erM n k c cs b b1 b2 b3)):=⟨by unfold AtOp;kernel_rfl,by kernel_rfl,by kernel_rfl,by rw[show(Goroutine.frame (erM n k c cs b b1 b2 b3)).kind=.normal by kernel_rfl];simp⟩
theorem erN_run:(erN n k c cs b b1 b2 b3 b4).status=.running:=by kernel_rfl
theorem erN_at:AtO (erN n k c cs b b1 b2 b3 b4) (oOf (erN n k c cs b b1 b2 b3 b4)):=⟨by unfold AtOp;kernel_rfl,by kernel_rfl,by kernel_rfl,by rw[show(Goroutine.frame (erN n k c cs b b1 b2 b3 b4)).kind=.normal by kernel_rfl];simp⟩
theorem erO_run:(erO n k c cs b b1 b2 b3 b4).status=.running:=by kernel_rfl
theorem erO_at:AtO (erO n k c cs b b1 b2 b3 b4) (oOf (erO n k c cs b b1 b2 b3 b4)):=⟨by unfold AtOp;kernel_rfl,by kernel_rfl,by kernel_rfl,by rw[show(Goroutine.frame (erO n k c cs b b1 b2 b3 b4)).kind=.normal by kernel_rfl];simp⟩
theorem erA_op:(execOp (aOf (erA n k c cs)).eval (oOf (erA n k c cs))).runT Tryz.prog w #[]=(.ok (.value (.pointer (some ⟨w.heap.size,0,none⟩))) {w with heap:=w.heap.push (.cells #[.int .i64 0] 38 (0,0))},#[]):=by kernel_rfl
theorem erB_op:(execOp (aOf (erB n k c cs b)).eval (oOf (erB n k c cs b))).runT Tryz.prog w #[]=(.ok (.value (erV1 w.heap.size)) {w with heap:=w.heap.push (.cells #[.pointer (some ⟨b,0,none⟩)] 103 (0,0))},#[⟨.mark (.extern 62),false,true⟩]):=by kernel_rfl
theorem erC_op:(execOp (aOf (erC n k c cs b b1)).eval (oOf (erC n k c cs b b1))).runT Tryz.prog w #[]=(.ok (.value (.pointer (some ⟨w.heap.size,0,none⟩))) {w with heap:=w.heap.push (.cells #[.pointer none,.pointer none,.int .u64 0] 130 (0,0))},#[]):=by kernel_rfl
theorem erD_op:(oOf (erD n k c cs b b1 b2)).op=.store 130 (ldX (erD n k c cs b b1 b2)) (stY (erD n k c cs b b1 b2)):=by kernel_rfl
theorem erD_x:(aOf (erD n k c cs b b1 b2)).eval (ldX (erD n k c cs b b1 b2))=.pointer (some ⟨b2,0,none⟩):=by kernel_rfl
theorem erD_y:(aOf (erD n k c cs b b1 b2)).eval (stY (erD n k c cs b b1 b2))=erV1 b1:=by kernel_rfl
theorem erE_op:(oOf (erE n k c cs b b1 b2)).op=.load 130 (ldX (erE n k c cs b b1 b2)):=by kernel_rfl
theorem erE_x:(aOf (erE n k c cs b b1 b2)).eval (ldX (erE n k c cs b b1 b2))=.pointer (some ⟨b2,0,none⟩):=by kernel_rfl
theorem erF_op:(oOf (erF n k c cs b b1 b2)).op=.load 130 (ldX (erF n k c cs b b1 b2)):=by kernel_rfl
theorem erF_x:(aOf (erF n k c cs b b1 b2)).eval (ldX (erF n k c cs b b1 b2))=.pointer (some ⟨b2,0,none⟩):=by kernel_rfl
theorem erI_op:(oOf (erI n k c cs b b1 b2)).op=.load 130 (ldX (erI n k c cs b b1 b2)):=by kernel_rfl
theorem erI_x:(aOf (erI n k c cs b b1 b2)).eval (ldX (erI n k c cs b b1 b2))=.pointer (some ⟨b2,0,none⟩):=by kernel_rfl
theorem erK_op:(oOf (erK n k c cs b b1 b2 b3)).op=.load 130 (ldX (erK n k c cs b b1 b2 b3)):=by kernel_rfl
theorem erK_x:(aOf (erK n k c cs b b1 b2 b3)).eval (ldX (erK n k c cs b b1 b2 b3))=.pointer (some ⟨b3,0,none⟩):=by kernel_rfl
theorem erH_op:(oOf (erH n k c cs b b1 b2)).op=.load 133 (ldX (erH n k c cs b b1 b2)):=by kernel_rfl
theorem erH_x:(aOf (erH n k c cs b b1 b2)).eval (ldX (erH n k c cs b b1 b2))=.pointer (some ⟨0,0,none⟩):=by kernel_rfl
theorem erO_op:(oOf (erO n k c cs b b1 b2 b3 b4)).op=.load 38 (ldX (erO n k c cs b b1 b2 b3 b4)):=by kernel_rfl
theorem erO_x:(aOf (erO n k c cs b b1 b2 b3 b4)).eval (ldX (erO n k c cs b b1 b2 b3 b4))=.pointer (some ⟨b,0,none⟩):=by kernel_rfl
theorem erJ_op:(execOp (aOf (erJ n k c cs b b1 b2)).eval (oOf (erJ n k c cs b b1 b2))).runT Tryz.prog w #[]=(.ok (.value (.pointer (some ⟨w.heap.size,0,none⟩))) {w with heap:=w.heap.push (.cells #[hdl 103,.pointer (some ⟨b1,0,none⟩),.int .u64 150] 130 (0,0))},#[]):=by kernel_rfl
theorem erM_op:(execOp (aOf (erM n k c cs b b1 b2 b3)).eval (oOf (erM n k c cs b b1 b2 b3))).runT Tryz.prog w #[]=(.ok (.value (erV3 w.heap.size)) {w with heap:=w.heap.push (.cells #[.int .i64 n] 38 (0,0))},#[⟨.mark (.extern 62),false,true⟩]):=by kernel_rfl
theorem erG_op:(execOp (aOf (erG n k c cs b b1 b2)).eval (oOf (erG n k c cs b b1 b2))).runT Tryz.prog w #[]=(Sem.bind (Extern.ReflectliteValue.method (Extern.ReflectliteValue.valueError "reflectlite.Value.IsNil" 0) Extern.ReflectliteValue.isNil #[erV1 b1]) (fun v=>Sem.pure (Next.value v))).runT Tryz.prog w #[⟨.mark (.extern 64),false,true⟩]:=by kernel_rfl
theorem erL_op:(execOp (aOf (erL n k c cs b b1 b2 b3)).eval (oOf (erL n k c cs b b1 b2 b3))).runT Tryz.prog w #[]=(Sem.bind (Extern.ReflectliteValue.method (Extern.ReflectliteValue.valueError "reflectlite.Value.Elem" 0) Extern.ReflectliteValue.elem #[erV1 b1]) (fun v=>Sem.pure (Next.value v))).runT Tryz.prog w #[⟨.mark (.extern 94),false,true⟩]:=by kernel_rfl
theorem erN_op:(execOp (aOf (erN n k c cs b b1 b2 b3 b4)).eval (oOf (erN n k c cs b b1 b2 b3 b4))).runT Tryz.prog w #[]=(Sem.bind (Extern.ReflectliteValue.set #[erV2 b,erV3 b4]) (fun v=>Sem.pure (Next.value v))).runT Tryz.prog w #[⟨.mark (.extern 95),false,true⟩]:=by kernel_rfl
end
end Ph
