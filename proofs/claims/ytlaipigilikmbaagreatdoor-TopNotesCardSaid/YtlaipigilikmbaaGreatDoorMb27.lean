/- Texts of this seat,put together: WkNewest3. -/
import Derived.Test.YtlaipigilikmbaaGreatDoorMb26
namespace Go.Proofs.YtlaipigilikmbaaGreatDoor
noncomputable section
set_option linter.unusedVariables false
set_option linter.unusedSimpArgs false
namespace Ph
open Conc Co Cl
section
variable (A:Option Addr)(L cp n:Nat)(c:Frame)(cs:List Frame)(bm bc b8 b9:Nat)(f:Nat→Value)(a2:Int)(o:Fnd)(b10:Nat)
def nuN:Goroutine:=fin (nwO2 A L cp n c cs bm bc b8 b9 f a2 zFnd false b10) undef
theorem nuN_calm:Calms Tryz.prog true 32 ((nuN A L cp n c cs bm bc b8 b9 f a2 b10)):=by
 iterate 32 refine⟨by kernel_rfl,fun _=>by kernel_rfl,?_⟩
 trivial
def nuY:Goroutine:=fin (nwO2 A L cp n c cs bm bc b8 b9 f a2 o true b10) undef
theorem nuY_calm:Calms Tryz.prog true 8 ((nuY A L cp n c cs bm bc b8 b9 f a2 o b10)):=by
 iterate 8 refine⟨by kernel_rfl,fun _=>by kernel_rfl,?_⟩
 trivial
def nuS0:Goroutine:=it Tryz.prog 8 (nuY A L cp n c cs bm bc b8 b9 f a2 o b10)
theorem nuS0_at:AtO ((nuS0 A L cp n c cs bm bc b8 b9 f a2 o b10)) (oOf ((nuS0 A L cp n c cs bm bc b8 b9 f a2 o b10))):=⟨by unfold AtOp;kernel_rfl,by kernel_rfl,by kernel_rfl,by rw[show(Goroutine.frame ((nuS0 A L cp n c cs bm bc b8 b9 f a2 o b10))).kind=.normal by kernel_rfl];simp⟩
variable (a3:Int)
theorem nuS0_calm:Calms Tryz.prog true 1 (fin (nuS0 A L cp n c cs bm bc b8 b9 f a2 o b10) (.int .i64 a3)):=by
 iterate 1 refine⟨by kernel_rfl,fun _=>by kernel_rfl,?_⟩
 trivial
def nuS1:Goroutine:=it Tryz.prog 1 (fin (nuS0 A L cp n c cs bm bc b8 b9 f a2 o b10) (.int .i64 a3))
theorem nuS1_at:AtO ((nuS1 A L cp n c cs bm bc b8 b9 f a2 o b10 a3)) (oOf ((nuS1 A L cp n c cs bm bc b8 b9 f a2 o b10 a3))):=⟨by unfold AtOp;kernel_rfl,by kernel_rfl,by kernel_rfl,by rw[show(Goroutine.frame ((nuS1 A L cp n c cs bm bc b8 b9 f a2 o b10 a3))).kind=.normal by kernel_rfl];simp⟩
def nuS2:Goroutine:=fin (nuS1 A L cp n c cs bm bc b8 b9 f a2 o b10 a3) (.int .i64 o.seq)
theorem nuS2_calm:Calms Tryz.prog true 1 ((nuS2 A L cp n c cs bm bc b8 b9 f a2 o b10 a3)):=by
 iterate 1 refine⟨by kernel_rfl,fun _=>by kernel_rfl,?_⟩
 trivial
theorem nuS2_it:it Tryz.prog 1 (nuS2 A L cp n c cs bm bc b8 b9 f a2 o b10 a3)=fin (nuS2 A L cp n c cs bm bc b8 b9 f a2 o b10 a3) (.bool (decide (o.seq<a3))):=by kernel_rfl
def nuSt:Goroutine:=fin (nuS2 A L cp n c cs bm bc b8 b9 f a2 o b10 a3) (.bool true)
theorem nuSt_calm:Calms Tryz.prog true 20 ((nuSt A L cp n c cs bm bc b8 b9 f a2 o b10 a3)):=by
 iterate 20 refine⟨by kernel_rfl,fun _=>by kernel_rfl,?_⟩
 trivial
def nuSf:Goroutine:=fin (nuS2 A L cp n c cs bm bc b8 b9 f a2 o b10 a3) (.bool false)
theorem nuSf_calm:Calms Tryz.prog true 3 ((nuSf A L cp n c cs bm bc b8 b9 f a2 o b10 a3)):=by
 iterate 3 refine⟨by kernel_rfl,fun _=>by kernel_rfl,?_⟩
 trivial
def nuQ0:Goroutine:=it Tryz.prog 3 (nuSf A L cp n c cs bm bc b8 b9 f a2 o b10 a3)
theorem nuQ0_at:AtO ((nuQ0 A L cp n c cs bm bc b8 b9 f a2 o b10 a3)) (oOf ((nuQ0 A L cp n c cs bm bc b8 b9 f a2 o b10 a3))):=⟨by unfold AtOp;kernel_rfl,by kernel_rfl,by kernel_rfl,by rw[show(Goroutine.frame ((nuQ0 A L cp n c cs bm bc b8 b9 f a2 o b10 a3))).kind=.normal by kernel_rfl];simp⟩
theorem nuQ0_calm:Calms Tryz.prog true 1 (fin (nuQ0 A L cp n c cs bm bc b8 b9 f a2 o b10 a3) (.int .i64 a3)):=by
 iterate 1 refine⟨by kernel_rfl,fun _=>by kernel_rfl,?_⟩
 trivial
def nuQ1:Goroutine:=it Tryz.prog 1 (fin (nuQ0 A L cp n c cs bm bc b8 b9 f a2 o b10 a3) (.int .i64 a3))
theorem nuQ1_at:AtO ((nuQ1 A L cp n c cs bm bc b8 b9 f a2 o b10 a3)) (oOf ((nuQ1 A L cp n c cs bm bc b8 b9 f a2 o b10 a3))):=⟨by unfold AtOp;kernel_rfl,by kernel_rfl,by kernel_rfl,by rw[show(Goroutine.frame ((nuQ1 A L cp n c cs bm bc b8 b9 f a2 o b10 a3))).kind=.normal by kernel_rfl];simp⟩
def nuQ2:Goroutine:=fin (nuQ1 A L cp n c cs bm bc b8 b9 f a2 o b10 a3) (.int .i64 o.seq)
theorem nuQ2_calm:Calms Tryz.prog true 1 ((nuQ2 A L cp n c cs bm bc b8 b9 f a2 o b10 a3)):=by
 iterate 1 refine⟨by kernel_rfl,fun _=>by kernel_rfl,?_⟩
 trivial
theorem nuQ2_it:it Tryz.prog 1 (nuQ2 A L cp n c cs bm bc b8 b9 f a2 o b10 a3)=fin (nuQ2 A L cp n c cs bm bc b8 b9 f a2 o b10 a3) (.bool (decide (a3=o.seq))):=by kernel_rfl
def nuQf:Goroutine:=fin (nuQ2 A L cp n c cs bm bc b8 b9 f a2 o b10 a3) (.bool false)
theorem nuQf_calm:Calms Tryz.prog true 15 ((nuQf A L cp n c cs bm bc b8 b9 f a2 o b10 a3)):=by
 iterate 15 refine⟨by kernel_rfl,fun _=>by kernel_rfl,?_⟩
 trivial
theorem nuQf_it:it Tryz.prog 15 (nuQf A L cp n c cs bm bc b8 b9 f a2 o b10 a3)=nwR A L cp n c cs bm bc (fun i=>(it Tryz.prog 15 (nuQf A L cp n c cs bm bc b8 b9 f a2 o b10 a3)).frame.tmps.getD i undef):=by kernel_rfl
def nuQt:Goroutine:=fin (nuQ2 A L cp n c cs bm bc b8 b9 f a2 o b10 a3) (.bool true)
theorem nuQt_calm:Calms Tryz.prog true 2 ((nuQt A L cp n c cs bm bc b8 b9 f a2 o b10 a3)):=by
 iterate 2 refine⟨by kernel_rfl,fun _=>by kernel_rfl,?_⟩
 trivial
def nuE0:Goroutine:=it Tryz.prog 2 (nuQt A L cp n c cs bm bc b8 b9 f a2 o b10 a3)
theorem nuE0_at:AtO ((nuE0 A L cp n c cs bm bc b8 b9 f a2 o b10 a3)) (oOf ((nuE0 A L cp n c cs bm bc b8 b9 f a2 o b10 a3))):=⟨by unfold AtOp;kernel_rfl,by kernel_rfl,by kernel_rfl,by rw[show(Goroutine.frame ((nuE0 A L cp n c cs bm bc b8 b9 f a2 o b10 a3))).kind=.normal by kernel_rfl];simp⟩
variable (k:Nat)
theorem nuE0_calm:Calms Tryz.prog true 1 (fin (nuE0 A L cp n c cs bm bc b8 b9 f a2 o b10 a3) (.int .i64 k)):=by
 iterate 1 refine⟨by kernel_rfl,fun _=>by kernel_rfl,?_⟩
 trivial
def nuE1:Goroutine:=it Tryz.prog 1 (fin (nuE0 A L cp n c cs bm bc b8 b9 f a2 o b10 a3) (.int .i64 k))
theorem nuE1_at:AtO ((nuE1 A L cp n c cs bm bc b8 b9 f a2 o b10 a3 k)) (oOf ((nuE1 A L cp n c cs bm bc b8 b9 f a2 o b10 a3 k))):=⟨by unfold AtOp;kernel_rfl,by kernel_rfl,by kernel_rfl,by rw[show(Goroutine.frame ((nuE1 A L cp n c cs bm bc b8 b9 f a2 o b10 a3 k))).kind=.normal by kernel_rfl];simp⟩
def nuE2:Goroutine:=fin (nuE1 A L cp n c cs bm bc b8 b9 f a2 o b10 a3 k) (.int .i64 o.page)
theorem nuE2_calm:Calms Tryz.prog true 1 ((nuE2 A L cp n c cs bm bc b8 b9 f a2 o b10 a3 k)):=by
 iterate 1 refine⟨by kernel_rfl,fun _=>by kernel_rfl,?_⟩
 trivial
theorem nuE2_it:it Tryz.prog 1 (nuE2 A L cp n c cs bm bc b8 b9 f a2 o b10 a3 k)=fin (nuE2 A L cp n c cs bm bc b8 b9 f a2 o b10 a3 k) (.bool (decide (o.page<(k:Int)))):=by kernel_rfl
def nuEt:Goroutine:=fin (nuE2 A L cp n c cs bm bc b8 b9 f a2 o b10 a3 k) (.bool true)
theorem nuEt_calm:Calms Tryz.prog true 7 ((nuEt A L cp n c cs bm bc b8 b9 f a2 o b10 a3 k)):=by
 iterate 7 refine⟨by kernel_rfl,fun _=>by kernel_rfl,?_⟩
 trivial
def nuEf:Goroutine:=fin (nuE2 A L cp n c cs bm bc b8 b9 f a2 o b10 a3 k) (.bool false)
theorem nuEf_calm:Calms Tryz.prog true 9 ((nuEf A L cp n c cs bm bc b8 b9 f a2 o b10 a3 k)):=by
 iterate 9 refine⟨by kernel_rfl,fun _=>by kernel_rfl,?_⟩
 trivial
theorem nuEf_it:it Tryz.prog 9 (nuEf A L cp n c cs bm bc b8 b9 f a2 o b10 a3 k)=nwR A L cp n c cs bm bc (fun i=>(it Tryz.prog 9 (nuEf A L cp n c cs bm bc b8 b9 f a2 o b10 a3 k)).frame.tmps.getD i undef):=by kernel_rfl
end
def Tu(A:Option Addr)(L cp n bm bc b8 b9:Nat)(f:Nat→Value):Array Value:=#[.slice A L cp,.int .i64 n,f 2,f 3,f 4,f 5,f 6,.map (some bm),pw b8,pw b9,f 10,f 11,f 12,f 13,f 14,f 15,f 16,f 17,f 18,f 19,f 20,f 21,f 22,f 23,.chan (some bc),f 25,f 26,f 27,f 28,f 29,f 30,f 31,f 32,f 33,f 34,f 35,f 36,f 37,f 38,f 39,f 40,f 41,f 42,f 43,f 44,f 45,f 46,f 47,f 48,f 49,f 50,f 51,f 52,f 53,f 54,f 55,f 56,f 57,f 58,f 59,f 60,f 61,f 62,f 63,f 64,f 65,f 66,f 67,f 68,f 69,f 70,f 71,f 72,.map (some bm),.pointer (some ⟨b9,1,none⟩),f 75,f 76,f 77,f 78,f 79,f 80,f 81,f 82,f 83,f 84,f 85,f 86,f 87,f 88,f 89,f 90,f 91,f 92,f 93,f 94,f 95,f 96,f 97,f 98,f 99,f 100]
section
variable (A:Option Addr)(L cp n:Nat)(c:Frame)(cs:List Frame)(bm bc b8 b9:Nat)(f:Nat→Value)
def nuU0:Goroutine:=it Tryz.prog 32 (nuN A L cp n c cs bm bc b8 b9 (fun _=>undef) 0 0)
def nuU:Goroutine:={nuU0 A L cp n c cs bm bc b8 b9 with frame:={(nuU0 A L cp n c cs bm bc b8 b9).frame with tmps:=Tu A L cp n bm bc b8 b9 f}}
section
variable (a2 a3:Int)(o:Fnd)(b10 k:Nat)
theorem nuN_it:it Tryz.prog 32 (nuN A L cp n c cs bm bc b8 b9 f a2 b10)=nuU A L cp n c cs bm bc b8 b9 (fun i=>(it Tryz.prog 32 (nuN A L cp n c cs bm bc b8 b9 f a2 b10)).frame.tmps.getD i undef):=by kernel_rfl
theorem nuSt_it:it Tryz.prog 20 (nuSt A L cp n c cs bm bc b8 b9 f a2 o b10 a3)=nuU A L cp n c cs bm bc b8 b9 (fun i=>(it Tryz.prog 20 (nuSt A L cp n c cs bm bc b8 b9 f a2 o b10 a3)).frame.tmps.getD i undef):=by kernel_rfl
theorem nuEt_it:it Tryz.prog 7 (nuEt A L cp n c cs bm bc b8 b9 f a2 o b10 a3 k)=nuU A L cp n c cs bm bc b8 b9 (fun i=>(it Tryz.prog 7 (nuEt A L cp n c cs bm bc b8 b9 f a2 o b10 a3 k)).frame.tmps.getD i undef):=by kernel_rfl
end
theorem nuU_at:AtO ((nuU A L cp n c cs bm bc b8 b9 f)) (oOf ((nuU A L cp n c cs bm bc b8 b9 f))):=⟨by unfold AtOp;kernel_rfl,by kernel_rfl,by kernel_rfl,by rw[show(Goroutine.frame ((nuU A L cp n c cs bm bc b8 b9 f))).kind=.normal by kernel_rfl];simp⟩
variable (a1 a2 a3:Int)(k:Nat)
theorem nuA0_calm:Calms Tryz.prog true 1 (fin (nuU A L cp n c cs bm bc b8 b9 f) (.int .i64 a2)):=by
 iterate 1 refine⟨by kernel_rfl,fun _=>by kernel_rfl,?_⟩
 trivial
def nuA:Goroutine:=it Tryz.prog 1 (fin (nuU A L cp n c cs bm bc b8 b9 f) (.int .i64 a2))
theorem nuA_at:AtO ((nuA A L cp n c cs bm bc b8 b9 f a2)) (oOf ((nuA A L cp n c cs bm bc b8 b9 f a2))):=⟨by unfold AtOp;kernel_rfl,by kernel_rfl,by kernel_rfl,by rw[show(Goroutine.frame ((nuA A L cp n c cs bm bc b8 b9 f a2))).kind=.normal by kernel_rfl];simp⟩
theorem nuB0_calm:Calms Tryz.prog true 1 (fin (nuA A L cp n c cs bm bc b8 b9 f a2) (.int .i64 a2)):=by
 iterate 1 refine⟨by kernel_rfl,fun _=>by kernel_rfl,?_⟩
 trivial
def nuB:Goroutine:=it Tryz.prog 1 (fin (nuA A L cp n c cs bm bc b8 b9 f a2) (.int .i64 a2))
theorem nuB_at:AtO ((nuB A L cp n c cs bm bc b8 b9 f a2)) (oOf ((nuB A L cp n c cs bm bc b8 b9 f a2))):=⟨by unfold AtOp;kernel_rfl,by kernel_rfl,by kernel_rfl,by rw[show(Goroutine.frame ((nuB A L cp n c cs bm bc b8 b9 f a2))).kind=.normal by kernel_rfl];simp⟩
theorem nuC0_calm:Calms Tryz.prog true 1 (fin (nuB A L cp n c cs bm bc b8 b9 f a2) (.int .i64 k)):=by
 iterate 1 refine⟨by kernel_rfl,fun _=>by kernel_rfl,?_⟩
 trivial
def nuC:Goroutine:=it Tryz.prog 1 (fin (nuB A L cp n c cs bm bc b8 b9 f a2) (.int .i64 k))
theorem nuC_at:AtO ((nuC A L cp n c cs bm bc b8 b9 f a2 k)) (oOf ((nuC A L cp n c cs bm bc b8 b9 f a2 k))):=⟨by unfold AtOp;kernel_rfl,by kernel_rfl,by kernel_rfl,by rw[show(Goroutine.frame ((nuC A L cp n c cs bm bc b8 b9 f a2 k))).kind=.normal by kernel_rfl];simp⟩
theorem nuD0_calm:Calms Tryz.prog true 1 (fin (nuC A L cp n c cs bm bc b8 b9 f a2 k) (.int .i64 a3)):=by
 iterate 1 refine⟨by kernel_rfl,fun _=>by kernel_rfl,?_⟩
 trivial
def nuD:Goroutine:=it Tryz.prog 1 (fin (nuC A L cp n c cs bm bc b8 b9 f a2 k) (.int .i64 a3))
theorem nuD_at:AtO ((nuD A L cp n c cs bm bc b8 b9 f a2 a3 k)) (oOf ((nuD A L cp n c cs bm bc b8 b9 f a2 a3 k))):=⟨by unfold AtOp;kernel_rfl,by kernel_rfl,by kernel_rfl,by rw[show(Goroutine.frame ((nuD A L cp n c cs bm bc b8 b9 f a2 a3 k))).kind=.normal by kernel_rfl];simp⟩
theorem nuG0_calm:Calms Tryz.prog true 1 (fin (nuD A L cp n c cs bm bc b8 b9 f a2 a3 k) (.int .i64 a1)):=by
 iterate 1 refine⟨by kernel_rfl,fun _=>by kernel_rfl,?_⟩
 trivial
def nuG:Goroutine:=it Tryz.prog 1 (fin (nuD A L cp n c cs bm bc b8 b9 f a2 a3 k) (.int .i64 a1))
theorem nuG_at:AtO ((nuG A L cp n c cs bm bc b8 b9 f a1 a2 a3 k)) (oOf ((nuG A L cp n c cs bm bc b8 b9 f a1 a2 a3 k))):=⟨by unfold AtOp;kernel_rfl,by kernel_rfl,by kernel_rfl,by rw[show(Goroutine.frame ((nuG A L cp n c cs bm bc b8 b9 f a1 a2 a3 k))).kind=.normal by kernel_rfl];simp⟩
theorem nuG_op:execOp (aOf (nuG A L cp n c cs bm bc b8 b9 f a1 a2 a3 k)).eval (oOf (nuG A L cp n c cs bm bc b8 b9 f a1 a2 a3 k))=(do Instr.mapUpdate 81 (.map (some bm)) (.int .i64 (⟨a2,k,a3,a1⟩:Fnd).lba) (fv ⟨a2,k,a3,a1⟩);Pure.pure Next.skip):=by kernel_rfl
theorem nuG_calm:Calms Tryz.prog true 5 (fin (nuG A L cp n c cs bm bc b8 b9 f a1 a2 a3 k) undef):=by
 iterate 5 refine⟨by kernel_rfl,fun _=>by kernel_rfl,?_⟩
 trivial
theorem nuG_it:it Tryz.prog 5 (fin (nuG A L cp n c cs bm bc b8 b9 f a1 a2 a3 k) undef)=nwR A L cp n c cs bm bc (fun i=>(it Tryz.prog 5 (fin (nuG A L cp n c cs bm bc b8 b9 f a1 a2 a3 k) undef)).frame.tmps.getD i undef):=by kernel_rfl
end
end Ph
