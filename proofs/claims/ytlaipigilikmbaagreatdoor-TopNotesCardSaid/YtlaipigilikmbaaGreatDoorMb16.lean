/- Texts of this seat,put together: WkAddNeg2. -/
import Derived.Test.YtlaipigilikmbaaGreatDoorMb14
namespace Go.Proofs.YtlaipigilikmbaaGreatDoor
noncomputable section
set_option linter.unusedVariables false
set_option linter.unusedSimpArgs false
namespace Ph
open Conc Co Cl
theorem QuitsD.calms{P:Program}{d q:Nat}:∀ (n:Nat) {g:Goroutine},Calms P false n g→QuitsD P q d (it P n g)→QuitsD P (q+n) d g
 |0,_,_,h=>h
 |n+1,_,⟨h1,h2,h3⟩,h=>.ctl h1 h2 (QuitsD.calms n h3 h)
def ANQ(S:Int):Prop:=∀ bw c cs,Calms Tryz.prog false 87 (an6 bw c cs S)∧(it Tryz.prog 87 (an6 bw c cs S)).status=.running∧(∀w,stepG Tryz.prog false (it Tryz.prog 87 (an6 bw c cs S)) w=.go (nextG Tryz.prog (it Tryz.prog 87 (an6 bw c cs S))) w #[mk .enable]) ∧
 (nextG Tryz.prog (it Tryz.prog 87 (an6 bw c cs S))).status=.running∧(∀w,stepG Tryz.prog false (nextG Tryz.prog (it Tryz.prog 87 (an6 bw c cs S))) w=.go (G (c.finish (.tuple #[])) cs) w #[])
theorem an_q0_0:ANQ 0:=by
 intro bw c cs;refine⟨?_,by kernel_rfl,fun _=>by kernel_rfl,by kernel_rfl,fun _=>by kernel_rfl⟩
 iterate 87 refine⟨by kernel_rfl,fun _=>by kernel_rfl,?_⟩
 trivial
theorem an_q1_0:ANQ 4294967296:=by
 intro bw c cs;refine⟨?_,by kernel_rfl,fun _=>by kernel_rfl,by kernel_rfl,fun _=>by kernel_rfl⟩
 iterate 87 refine⟨by kernel_rfl,fun _=>by kernel_rfl,?_⟩
 trivial
theorem an_q1_1:ANQ 4294967297:=by
 intro bw c cs;refine⟨?_,by kernel_rfl,fun _=>by kernel_rfl,by kernel_rfl,fun _=>by kernel_rfl⟩
 iterate 87 refine⟨by kernel_rfl,fun _=>by kernel_rfl,?_⟩
 trivial
theorem an_q2_0:ANQ 8589934592:=by
 intro bw c cs;refine⟨?_,by kernel_rfl,fun _=>by kernel_rfl,by kernel_rfl,fun _=>by kernel_rfl⟩
 iterate 87 refine⟨by kernel_rfl,fun _=>by kernel_rfl,?_⟩
 trivial
theorem an_q2_1:ANQ 8589934593:=by
 intro bw c cs;refine⟨?_,by kernel_rfl,fun _=>by kernel_rfl,by kernel_rfl,fun _=>by kernel_rfl⟩
 iterate 87 refine⟨by kernel_rfl,fun _=>by kernel_rfl,?_⟩
 trivial
theorem an_q3_0:ANQ 12884901888:=by
 intro bw c cs;refine⟨?_,by kernel_rfl,fun _=>by kernel_rfl,by kernel_rfl,fun _=>by kernel_rfl⟩
 iterate 87 refine⟨by kernel_rfl,fun _=>by kernel_rfl,?_⟩
 trivial
theorem an_q3_1:ANQ 12884901889:=by
 intro bw c cs;refine⟨?_,by kernel_rfl,fun _=>by kernel_rfl,by kernel_rfl,fun _=>by kernel_rfl⟩
 iterate 87 refine⟨by kernel_rfl,fun _=>by kernel_rfl,?_⟩
 trivial
theorem an_q4_0:ANQ 17179869184:=by
 intro bw c cs;refine⟨?_,by kernel_rfl,fun _=>by kernel_rfl,by kernel_rfl,fun _=>by kernel_rfl⟩
 iterate 87 refine⟨by kernel_rfl,fun _=>by kernel_rfl,?_⟩
 trivial
theorem an_q4_1:ANQ 17179869185:=by
 intro bw c cs;refine⟨?_,by kernel_rfl,fun _=>by kernel_rfl,by kernel_rfl,fun _=>by kernel_rfl⟩
 iterate 87 refine⟨by kernel_rfl,fun _=>by kernel_rfl,?_⟩
 trivial
theorem an_q5_0:ANQ 21474836480:=by
 intro bw c cs;refine⟨?_,by kernel_rfl,fun _=>by kernel_rfl,by kernel_rfl,fun _=>by kernel_rfl⟩
 iterate 87 refine⟨by kernel_rfl,fun _=>by kernel_rfl,?_⟩
 trivial
theorem an_q5_1:ANQ 21474836481:=by
 intro bw c cs;refine⟨?_,by kernel_rfl,fun _=>by kernel_rfl,by kernel_rfl,fun _=>by kernel_rfl⟩
 iterate 87 refine⟨by kernel_rfl,fun _=>by kernel_rfl,?_⟩
 trivial
theorem an_q6_0:ANQ 25769803776:=by
 intro bw c cs;refine⟨?_,by kernel_rfl,fun _=>by kernel_rfl,by kernel_rfl,fun _=>by kernel_rfl⟩
 iterate 87 refine⟨by kernel_rfl,fun _=>by kernel_rfl,?_⟩
 trivial
theorem an_q6_1:ANQ 25769803777:=by
 intro bw c cs;refine⟨?_,by kernel_rfl,fun _=>by kernel_rfl,by kernel_rfl,fun _=>by kernel_rfl⟩
 iterate 87 refine⟨by kernel_rfl,fun _=>by kernel_rfl,?_⟩
 trivial
theorem an_q7_0:ANQ 30064771072:=by
 intro bw c cs;refine⟨?_,by kernel_rfl,fun _=>by kernel_rfl,by kernel_rfl,fun _=>by kernel_rfl⟩
 iterate 87 refine⟨by kernel_rfl,fun _=>by kernel_rfl,?_⟩
 trivial
theorem an_q7_1:ANQ 30064771073:=by
 intro bw c cs;refine⟨?_,by kernel_rfl,fun _=>by kernel_rfl,by kernel_rfl,fun _=>by kernel_rfl⟩
 iterate 87 refine⟨by kernel_rfl,fun _=>by kernel_rfl,?_⟩
 trivial
theorem an_q8_0:ANQ 34359738368:=by
 intro bw c cs;refine⟨?_,by kernel_rfl,fun _=>by kernel_rfl,by kernel_rfl,fun _=>by kernel_rfl⟩
 iterate 87 refine⟨by kernel_rfl,fun _=>by kernel_rfl,?_⟩
 trivial
theorem an_q8_1:ANQ 34359738369:=by
 intro bw c cs;refine⟨?_,by kernel_rfl,fun _=>by kernel_rfl,by kernel_rfl,fun _=>by kernel_rfl⟩
 iterate 87 refine⟨by kernel_rfl,fun _=>by kernel_rfl,?_⟩
 trivial
theorem an_q9_0:ANQ 38654705664:=by
 intro bw c cs;refine⟨?_,by kernel_rfl,fun _=>by kernel_rfl,by kernel_rfl,fun _=>by kernel_rfl⟩
 iterate 87 refine⟨by kernel_rfl,fun _=>by kernel_rfl,?_⟩
 trivial
theorem an_q9_1:ANQ 38654705665:=by
 intro bw c cs;refine⟨?_,by kernel_rfl,fun _=>by kernel_rfl,by kernel_rfl,fun _=>by kernel_rfl⟩
 iterate 87 refine⟨by kernel_rfl,fun _=>by kernel_rfl,?_⟩
 trivial
theorem anq{v wt:Nat}(hv:v<10)(hwt:wt≤1)(hn:¬ (v=0∧wt=1)):ANQ (v*KK+wt):=by
 have:v=0∨v=1∨v=2∨v=3∨v=4∨v=5∨v=6∨v=7∨v=8∨v=9:=by omega
 have h2:wt=0∨wt=1:=by omega
 rcases h2 with rfl|rfl
 ·rcases this with rfl|rfl|rfl|rfl|rfl|rfl|rfl|rfl|rfl|rfl
  ·exact an_q0_0
  ·exact an_q1_0
  ·exact an_q2_0
  ·exact an_q3_0
  ·exact an_q4_0
  ·exact an_q5_0
  ·exact an_q6_0
  ·exact an_q7_0
  ·exact an_q8_0
  ·exact an_q9_0
 ·rcases this with rfl|rfl|rfl|rfl|rfl|rfl|rfl|rfl|rfl|rfl
  ·exact absurd ⟨rfl,rfl⟩ hn
  ·exact an_q1_1
  ·exact an_q2_1
  ·exact an_q3_1
  ·exact an_q4_1
  ·exact an_q5_1
  ·exact an_q6_1
  ·exact an_q7_1
  ·exact an_q8_1
  ·exact an_q9_1
end Ph
