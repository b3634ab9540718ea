/- Texts of this seat,put together: ErC. -/
import Derived.Test.YtlaipigilikmbaaGreatDoorMb28
namespace Go.Proofs.YtlaipigilikmbaaGreatDoor
noncomputable section
set_option linter.unusedVariables false
set_option linter.unusedSimpArgs false
namespace Ph
open Conc Co Cl
section
variable (n k:Int)(c:Frame)(cs:List Frame)
def hdl(t:TypeId):Value:=.pointer (some ⟨2,t,none⟩)
def rtI(t:TypeId):Value:=.iface 161 (.agg #[hdl t])
def er0:Goroutine:=G (Frame.enter Tryz.prog 11 #[.iface 38 (.int .i64 n),.int .i64 k] .normal) (c::cs)
def erA:Goroutine:=it Tryz.prog 22 (er0 n k c cs)
variable (b b1 b2 b3 b4:Nat)
def erV1(b1:Nat):Value:=.agg #[hdl 103,.pointer (some ⟨b1,0,none⟩),.int .u64 150]
def erV2(b:Nat):Value:=.agg #[hdl 38,.pointer (some ⟨b,0,none⟩),.int .u64 386]
def erV3(b4:Nat):Value:=.agg #[hdl 38,.pointer (some ⟨b4,0,none⟩),.int .u64 130]
def erB:Goroutine:=it Tryz.prog 30 (fin (erA n k c cs) (.pointer (some ⟨b,0,none⟩)))
def erC:Goroutine:=fin (erB n k c cs b) (erV1 b1)
def erD:Goroutine:=fin (erC n k c cs b b1) (.pointer (some ⟨b2,0,none⟩))
def erE:Goroutine:=it Tryz.prog 3 (fin (erD n k c cs b b1 b2) undef)
def erF:Goroutine:=it Tryz.prog 10 (fin (erE n k c cs b b1 b2) (erV1 b1))
def erG:Goroutine:=fin (erF n k c cs b b1 b2) (erV1 b1)
def erH:Goroutine:=it Tryz.prog 18 (fin (erG n k c cs b b1 b2) (.bool false))
def erI:Goroutine:=it Tryz.prog 10 (fin (erH n k c cs b b1 b2) (rtI 29))
def erJ:Goroutine:=it Tryz.prog 4 (fin (erI n k c cs b b1 b2) (erV1 b1))
def erK:Goroutine:=it Tryz.prog 16 (fin (erJ n k c cs b b1 b2) (.pointer (some ⟨b3,0,none⟩)))
def erL:Goroutine:=fin (erK n k c cs b b1 b2 b3) (erV1 b1)
def erM:Goroutine:=it Tryz.prog 1 (fin (erL n k c cs b b1 b2 b3) (erV2 b))
def erN:Goroutine:=fin (erM n k c cs b b1 b2 b3) (erV3 b4)
def erO:Goroutine:=it Tryz.prog 15 (fin (erN n k c cs b b1 b2 b3 b4) (.tuple #[]))
def erP:Goroutine:=fin (it Tryz.prog 10 (fin (erO n k c cs b b1 b2 b3 b4) (.int .i64 n))) (.bool (decide (n=k)))
theorem er0_calm:Calms Tryz.prog true 22 (er0 n k c cs):=by
 iterate 22 refine⟨by kernel_rfl,fun _=>by kernel_rfl,?_⟩
 trivial
theorem erA_calm:Calms Tryz.prog true 30 (fin (erA n k c cs) (.pointer (some ⟨b,0,none⟩))):=by
 iterate 30 refine⟨by kernel_rfl,fun _=>by kernel_rfl,?_⟩
 trivial
theorem erD_calm:Calms Tryz.prog true 3 (fin (erD n k c cs b b1 b2) undef):=by
 iterate 3 refine⟨by kernel_rfl,fun _=>by kernel_rfl,?_⟩
 trivial
theorem erE_calm:Calms Tryz.prog true 10 (fin (erE n k c cs b b1 b2) (erV1 b1)):=by
 iterate 10 refine⟨by kernel_rfl,fun _=>by kernel_rfl,?_⟩
 trivial
theorem erG_calm:Calms Tryz.prog true 18 (fin (erG n k c cs b b1 b2) (.bool false)):=by
 iterate 18 refine⟨by kernel_rfl,fun _=>by kernel_rfl,?_⟩
 trivial
theorem erH_calm:Calms Tryz.prog true 10 (fin (erH n k c cs b b1 b2) (rtI 29)):=by
 iterate 10 refine⟨by kernel_rfl,fun _=>by kernel_rfl,?_⟩
 trivial
theorem erI_calm:Calms Tryz.prog true 4 (fin (erI n k c cs b b1 b2) (erV1 b1)):=by
 iterate 4 refine⟨by kernel_rfl,fun _=>by kernel_rfl,?_⟩
 trivial
theorem erJ_calm:Calms Tryz.prog true 16 (fin (erJ n k c cs b b1 b2) (.pointer (some ⟨b3,0,none⟩))):=by
 iterate 16 refine⟨by kernel_rfl,fun _=>by kernel_rfl,?_⟩
 trivial
theorem erL_calm:Calms Tryz.prog true 1 (fin (erL n k c cs b b1 b2 b3) (erV2 b)):=by
 iterate 1 refine⟨by kernel_rfl,fun _=>by kernel_rfl,?_⟩
 trivial
theorem erN_calm:Calms Tryz.prog true 15 (fin (erN n k c cs b b1 b2 b3 b4) (.tuple #[])):=by
 iterate 15 refine⟨by kernel_rfl,fun _=>by kernel_rfl,?_⟩
 trivial
theorem erO_calm:Calms Tryz.prog true 11 (fin (erO n k c cs b b1 b2 b3 b4) (.int .i64 n)):=by
 iterate 11 refine⟨by kernel_rfl,fun _=>by kernel_rfl,?_⟩
 trivial
theorem erO_it:it Tryz.prog 11 (fin (erO n k c cs b b1 b2 b3 b4) (.int .i64 n))=erP n k c cs b b1 b2 b3 b4:=by kernel_rfl
end
end Ph
