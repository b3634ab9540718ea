/- Texts of this seat,put together: WkNewest2. -/
import Derived.Test.YtlaipigilikmbaaGreatDoorMb25
namespace Go.Proofs.YtlaipigilikmbaaGreatDoor
noncomputable section
set_option linter.unusedVariables false
set_option linter.unusedSimpArgs false
namespace Ph
open Conc Co Cl
section
variable (A:Option Addr)(L cp n:Nat)(c:Frame)(cs:List Frame)(bm bc:Nat)(f:Nat→Value)(k:Nat)(a1 a2 a3 a4:Int)(sl:Value)(b8 b9:Nat)
def nwT(b:Bool):Goroutine:=fin (nwP1 A L cp n c cs bm bc f k a1 a2 a3 a4 sl b8 b9) (.bool b)
theorem nwT1_calm:Calms Tryz.prog true 16 ((nwT A L cp n c cs bm bc f k a1 a2 a3 a4 sl b8 b9 true)):=by
 iterate 16 refine⟨by kernel_rfl,fun _=>by kernel_rfl,?_⟩
 trivial
theorem nwT1_it:it Tryz.prog 16 (nwT A L cp n c cs bm bc f k a1 a2 a3 a4 sl b8 b9 true)=nwR A L cp n c cs bm bc (fun i=>(it Tryz.prog 16 (nwT A L cp n c cs bm bc f k a1 a2 a3 a4 sl b8 b9 true)).frame.tmps.getD i undef):=by kernel_rfl
theorem nwT0_calm:Calms Tryz.prog true 2 ((nwT A L cp n c cs bm bc f k a1 a2 a3 a4 sl b8 b9 false)):=by
 iterate 2 refine⟨by kernel_rfl,fun _=>by kernel_rfl,?_⟩
 trivial
def nwK0:Goroutine:=it Tryz.prog 2 (nwT A L cp n c cs bm bc f k a1 a2 a3 a4 sl b8 b9 false)
theorem nwK0_at:AtO ((nwK0 A L cp n c cs bm bc f k a1 a2 a3 a4 sl b8 b9)) (oOf ((nwK0 A L cp n c cs bm bc f k a1 a2 a3 a4 sl b8 b9))):=⟨by unfold AtOp;kernel_rfl,by kernel_rfl,by kernel_rfl,by rw[show(Goroutine.frame ((nwK0 A L cp n c cs bm bc f k a1 a2 a3 a4 sl b8 b9))).kind=.normal by kernel_rfl];simp⟩
def nwK1:Goroutine:=fin (nwK0 A L cp n c cs bm bc f k a1 a2 a3 a4 sl b8 b9) (.int .i64 a1)
theorem nwK1_calm:Calms Tryz.prog true 1 ((nwK1 A L cp n c cs bm bc f k a1 a2 a3 a4 sl b8 b9)):=by
 iterate 1 refine⟨by kernel_rfl,fun _=>by kernel_rfl,?_⟩
 trivial
theorem nwK1_it:it Tryz.prog 1 (nwK1 A L cp n c cs bm bc f k a1 a2 a3 a4 sl b8 b9)=fin (nwK1 A L cp n c cs bm bc f k a1 a2 a3 a4 sl b8 b9) (.bool (!decide (a1=1))):=by kernel_rfl
def nwKt:Goroutine:=fin (nwK1 A L cp n c cs bm bc f k a1 a2 a3 a4 sl b8 b9) (.bool true)
def nwKf:Goroutine:=fin (nwK1 A L cp n c cs bm bc f k a1 a2 a3 a4 sl b8 b9) (.bool false)
theorem nwKf_calm:Calms Tryz.prog true 13 ((nwKf A L cp n c cs bm bc f k a1 a2 a3 a4 sl b8 b9)):=by
 iterate 13 refine⟨by kernel_rfl,fun _=>by kernel_rfl,?_⟩
 trivial
theorem nwKt_calm:Calms Tryz.prog true 2 ((nwKt A L cp n c cs bm bc f k a1 a2 a3 a4 sl b8 b9)):=by
 iterate 2 refine⟨by kernel_rfl,fun _=>by kernel_rfl,?_⟩
 trivial
def nwH0:Goroutine:=it Tryz.prog 2 (nwKt A L cp n c cs bm bc f k a1 a2 a3 a4 sl b8 b9)
theorem nwH0_at:AtO ((nwH0 A L cp n c cs bm bc f k a1 a2 a3 a4 sl b8 b9)) (oOf ((nwH0 A L cp n c cs bm bc f k a1 a2 a3 a4 sl b8 b9))):=⟨by unfold AtOp;kernel_rfl,by kernel_rfl,by kernel_rfl,by rw[show(Goroutine.frame ((nwH0 A L cp n c cs bm bc f k a1 a2 a3 a4 sl b8 b9))).kind=.normal by kernel_rfl];simp⟩
def nwH1:Goroutine:=fin (nwH0 A L cp n c cs bm bc f k a1 a2 a3 a4 sl b8 b9) (.int .i64 a1)
theorem nwH1_calm:Calms Tryz.prog true 1 ((nwH1 A L cp n c cs bm bc f k a1 a2 a3 a4 sl b8 b9)):=by
 iterate 1 refine⟨by kernel_rfl,fun _=>by kernel_rfl,?_⟩
 trivial
theorem nwH1_it:it Tryz.prog 1 (nwH1 A L cp n c cs bm bc f k a1 a2 a3 a4 sl b8 b9)=fin (nwH1 A L cp n c cs bm bc f k a1 a2 a3 a4 sl b8 b9) (.bool (!decide (a1=2))):=by kernel_rfl
def nwHt:Goroutine:=fin (nwH1 A L cp n c cs bm bc f k a1 a2 a3 a4 sl b8 b9) (.bool true)
def nwHf:Goroutine:=fin (nwH1 A L cp n c cs bm bc f k a1 a2 a3 a4 sl b8 b9) (.bool false)
theorem nwHt_calm:Calms Tryz.prog true 8 ((nwHt A L cp n c cs bm bc f k a1 a2 a3 a4 sl b8 b9)):=by
 iterate 8 refine⟨by kernel_rfl,fun _=>by kernel_rfl,?_⟩
 trivial
theorem nwHt_it:it Tryz.prog 8 (nwHt A L cp n c cs bm bc f k a1 a2 a3 a4 sl b8 b9)=nwR A L cp n c cs bm bc (fun i=>(it Tryz.prog 8 (nwHt A L cp n c cs bm bc f k a1 a2 a3 a4 sl b8 b9)).frame.tmps.getD i undef):=by kernel_rfl
theorem nwHf_calm:Calms Tryz.prog true 9 ((nwHf A L cp n c cs bm bc f k a1 a2 a3 a4 sl b8 b9)):=by
 iterate 9 refine⟨by kernel_rfl,fun _=>by kernel_rfl,?_⟩
 trivial
end
def Tl(A:Option Addr)(L cp n bm bc b8 b9:Nat)(f:Nat→Value):Array Value:=#[.slice A L cp,.int .i64 n,f 2,f 3,f 4,f 5,f 6,.map (some bm),pw b8,pw b9,f 10,f 11,f 12,f 13,f 14,f 15,f 16,f 17,f 18,f 19,f 20,f 21,f 22,f 23,.chan (some bc),f 25,f 26,f 27,f 28,f 29,f 30,f 31,f 32,f 33,f 34,f 35,f 36,f 37,f 38,f 39,f 40,f 41,f 42,f 43,.map (some bm),.pointer (some ⟨b9,1,none⟩),f 46,f 47,f 48,f 49,f 50,f 51,f 52,f 53,f 54,f 55,f 56,f 57,f 58,f 59,f 60,f 61,f 62,f 63,f 64,f 65,f 66,f 67,f 68,f 69,f 70,f 71,f 72,f 73,f 74,f 75,f 76,f 77,f 78,f 79,f 80,f 81,f 82,f 83,f 84,f 85,f 86,f 87,f 88,f 89,f 90,f 91,f 92,f 93,f 94,f 95,f 96,f 97,f 98,f 99,f 100]
section
variable (A:Option Addr)(L cp n:Nat)(c:Frame)(cs:List Frame)(bm bc b8 b9:Nat)(f:Nat→Value)
def nwL0:Goroutine:=it Tryz.prog 13 (nwKf A L cp n c cs bm bc (fun _=>undef) 0 1 0 0 2 (.slice none 0 0) b8 b9)
def nwL:Goroutine:={nwL0 A L cp n c cs bm bc b8 b9 with frame:={(nwL0 A L cp n c cs bm bc b8 b9).frame with tmps:=Tl A L cp n bm bc b8 b9 f}}
section
variable (k:Nat)(a1 a2 a3 a4:Int)(sl:Value)
theorem nwKf_it:it Tryz.prog 13 (nwKf A L cp n c cs bm bc f k a1 a2 a3 a4 sl b8 b9)=nwL A L cp n c cs bm bc b8 b9 (fun i=>(it Tryz.prog 13 (nwKf A L cp n c cs bm bc f k a1 a2 a3 a4 sl b8 b9)).frame.tmps.getD i undef):=by kernel_rfl
theorem nwHf_it:it Tryz.prog 9 (nwHf A L cp n c cs bm bc f k a1 a2 a3 a4 sl b8 b9)=nwL A L cp n c cs bm bc b8 b9 (fun i=>(it Tryz.prog 9 (nwHf A L cp n c cs bm bc f k a1 a2 a3 a4 sl b8 b9)).frame.tmps.getD i undef):=by kernel_rfl
end
theorem nwL_at:AtO ((nwL A L cp n c cs bm bc b8 b9 f)) (oOf ((nwL A L cp n c cs bm bc b8 b9 f))):=⟨by unfold AtOp;kernel_rfl,by kernel_rfl,by kernel_rfl,by rw[show(Goroutine.frame ((nwL A L cp n c cs bm bc b8 b9 f))).kind=.normal by kernel_rfl];simp⟩
variable (a2:Int)
def nwG:Goroutine:=fin (nwL A L cp n c cs bm bc b8 b9 f) (.int .i64 a2)
theorem nwG_at:AtO ((nwG A L cp n c cs bm bc b8 b9 f a2)) (oOf ((nwG A L cp n c cs bm bc b8 b9 f a2))):=⟨by unfold AtOp;kernel_rfl,by kernel_rfl,by kernel_rfl,by rw[show(Goroutine.frame ((nwG A L cp n c cs bm bc b8 b9 f a2))).kind=.normal by kernel_rfl];simp⟩
theorem nwG_op:execOp (aOf (nwG A L cp n c cs bm bc b8 b9 f a2)).eval (oOf (nwG A L cp n c cs bm bc b8 b9 f a2))=(do Pure.pure (Next.value (←Instr.lookup 81 (.map (some bm)) (.int .i64 a2) true))):=by kernel_rfl
variable (o:Fnd)(ok:Bool)
def nwO:Goroutine:=fin (nwG A L cp n c cs bm bc b8 b9 f a2) (.tuple #[fv o,.bool ok])
theorem nwO_calm:Calms Tryz.prog true 3 ((nwO A L cp n c cs bm bc b8 b9 f a2 o ok)):=by
 iterate 3 refine⟨by kernel_rfl,fun _=>by kernel_rfl,?_⟩
 trivial
def nwO1:Goroutine:=it Tryz.prog 3 (nwO A L cp n c cs bm bc b8 b9 f a2 o ok)
theorem nwO1_at:AtO ((nwO1 A L cp n c cs bm bc b8 b9 f a2 o ok)) (oOf ((nwO1 A L cp n c cs bm bc b8 b9 f a2 o ok))):=⟨by unfold AtOp;kernel_rfl,by kernel_rfl,by kernel_rfl,by rw[show(Goroutine.frame ((nwO1 A L cp n c cs bm bc b8 b9 f a2 o ok))).kind=.normal by kernel_rfl];simp⟩
variable (b10:Nat)
def nwO2:Goroutine:=fin (nwO1 A L cp n c cs bm bc b8 b9 f a2 o ok) (pw b10)
theorem nwO2_at:AtO ((nwO2 A L cp n c cs bm bc b8 b9 f a2 o ok b10)) (oOf ((nwO2 A L cp n c cs bm bc b8 b9 f a2 o ok b10))):=⟨by unfold AtOp;kernel_rfl,by kernel_rfl,by kernel_rfl,by rw[show(Goroutine.frame ((nwO2 A L cp n c cs bm bc b8 b9 f a2 o ok b10))).kind=.normal by kernel_rfl];simp⟩
end
end Ph
