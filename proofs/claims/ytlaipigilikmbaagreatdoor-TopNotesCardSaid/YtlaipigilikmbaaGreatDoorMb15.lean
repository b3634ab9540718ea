/- Texts of this seat,put together: WkWork. -/
import Derived.Test.YtlaipigilikmbaaGreatDoorMb14
namespace Go.Proofs.YtlaipigilikmbaaGreatDoor
noncomputable section
set_option linter.unusedVariables false
set_option linter.unusedSimpArgs false
namespace Ph
open Conc Co Cl
def newG(f:FuncId)(caps:Array Value):Goroutine:={frame:={(default:Frame) with fn:=Tryz.prog.funcs.size,defers:=[⟨.fn (.func f) caps,#[]⟩],mode:=.panicking [goexitEntry]},callers:=[],status:=.running,dying:=none}
section
variable (bw bn bp bo:Nat)
def wkN:Goroutine:=newG 48 #[pw bw,pw bn,pw bp,pw bo]
def wkC:Goroutine:=it Tryz.prog 21 (wkN bw bn bp bo)
def wkF:Frame:=((wkC bw bn bp bo).callers[0]?).getD default
def wkB:List Frame:=(wkC bw bn bp bo).callers.drop 1
def wk1(T:Array Value):Goroutine:={wkC bw bn bp bo with callers:={wkF bw bn bp bo with tmps:=T}::wkB bw bn bp bo}
def wk2(T:Array Value)(c:Int):Goroutine:=fin (wk1 bw bn bp bo T) (.int .i64 c)
def wk3(T:Array Value)(k:Nat):Goroutine:=fin (it Tryz.prog 4 (wk2 bw bn bp bo T (k+1))) (.int .i64 k)
def wk4(T:Array Value)(k:Nat):Goroutine:=it Tryz.prog 6 (wk3 bw bn bp bo T k)
def wk5(T:Array Value)(k:Nat)(A:Option Addr)(L cp:Nat):Goroutine:=fin (wk4 bw bn bp bo T k) (.slice A L cp)
def wk6(T:Array Value)(k:Nat)(A:Option Addr)(L cp:Nat)(p:Bool):Goroutine:=fin (it Tryz.prog 1 (wk5 bw bn bp bo T k A L cp)) (.bool p)
def wk7(T:Array Value)(k:Nat)(A:Option Addr)(L cp:Nat):Goroutine:=it Tryz.prog 5 (wk6 bw bn bp bo T k A L cp false)
def wk8(T:Array Value)(k:Nat)(A:Option Addr)(L cp:Nat):Goroutine:=fin (wk7 bw bn bp bo T k A L cp) (.slice A L cp)
def wk9(T:Array Value)(k b off L cp:Nat):Goroutine:=fin (it Tryz.prog 1 (wk8 bw bn bp bo T k (some ⟨b,off,none⟩) L cp)) (.pointer (some ⟨b,off+k*1,none⟩))
def wk11(T:Array Value)(k b off L cp:Nat)(pv:Value):Goroutine:=fin (wk9 bw bn bp bo T k b off L cp) pv
def wk12(T:Array Value)(k b off L cp:Nat)(pv:Value)(a1 a2 a3:Int)(sl:Value)(a4:Int):Goroutine:=fin (wk11 bw bn bp bo T k b off L cp pv) (.tuple #[.agg #[.int .i64 a1,.int .i64 a2,.int .i64 a3,sl],.int .i64 a4])
def wk13(T:Array Value)(k b off L cp:Nat)(pv:Value)(a1 a2 a3:Int)(sl:Value)(a4:Int):Goroutine:=it Tryz.prog 3 (wk12 bw bn bp bo T k b off L cp pv a1 a2 a3 sl a4)
def wk14(T:Array Value)(k b off L cp:Nat)(pv:Value)(a1 a2 a3:Int)(sl:Value)(a4:Int)(b5:Nat):Goroutine:=fin (wk13 bw bn bp bo T k b off L cp pv a1 a2 a3 sl a4) (.pointer (some ⟨b5,0,none⟩))
def wk15(T:Array Value)(k b off L cp:Nat)(pv:Value)(a1 a2 a3:Int)(sl:Value)(a4:Int)(b5:Nat):Goroutine:=fin (wk14 bw bn bp bo T k b off L cp pv a1 a2 a3 sl a4 b5) undef
def wk16(T:Array Value)(k b off L cp:Nat)(pv:Value)(a1 a2 a3:Int)(sl:Value)(a4:Int)(b5:Nat):Goroutine:=it Tryz.prog 3 (wk15 bw bn bp bo T k b off L cp pv a1 a2 a3 sl a4 b5)
def wk17(T:Array Value)(k b off L cp:Nat)(pv:Value)(a1 a2 a3:Int)(sl:Value)(a4:Int)(b5:Nat)(bc:Nat):Goroutine:=fin (wk16 bw bn bp bo T k b off L cp pv a1 a2 a3 sl a4 b5) (.chan (some bc))
def wk18(T:Array Value)(k b off L cp:Nat)(pv:Value)(a1 a2 a3:Int)(sl:Value)(a4:Int)(b5:Nat)(bc:Nat):Goroutine:=it Tryz.prog 1 (wk17 bw bn bp bo T k b off L cp pv a1 a2 a3 sl a4 b5 bc)
def wk19(T:Array Value)(k b off L cp:Nat)(pv:Value)(a1 a2 a3:Int)(sl:Value)(a4:Int)(b5:Nat)(bc:Nat):Goroutine:=fin (wk18 bw bn bp bo T k b off L cp pv a1 a2 a3 sl a4 b5 bc) (.agg #[.int .i64 a1,.int .i64 a2,.int .i64 a3,sl])
def wk20(T:Array Value)(k b off L cp:Nat)(pv:Value)(a1 a2 a3:Int)(sl:Value)(a4:Int)(b5:Nat)(bc:Nat):Goroutine:=it Tryz.prog 2 (wk19 bw bn bp bo T k b off L cp pv a1 a2 a3 sl a4 b5 bc)
def wkS0:Goroutine:=Conc.served (Conc.core (wk20 bw bn bp bo (Array.replicate 26 undef) 0 0 0 0 0 undef 0 0 0 undef 0 0 0)) undef
def wkS(T:Array Value):Goroutine:={wkS0 bw bn bp bo with frame:={(wkS0 bw bn bp bo).frame with tmps:=T}}
end
end Ph
