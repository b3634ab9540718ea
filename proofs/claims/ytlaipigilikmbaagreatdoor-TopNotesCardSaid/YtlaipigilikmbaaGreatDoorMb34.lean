/- Texts of this seat,put together: RecBatch. -/
import Derived.Test.YtlaipigilikmbaaGreatDoorMb33
import Derived.Test.YtlaipigilikmbaaGreatDoorMb13
import Derived.Defers
import Derived.Recover
import Derived.Stop.Asserts
namespace Go.Proofs.YtlaipigilikmbaaGreatDoor
noncomputable section
set_option linter.unusedVariables false
set_option linter.unusedSimpArgs false
namespace RecW
open RowKit Rec BufW I64
theorem assert_short(w:World):(Instr.typeAssert (.iface 105 (.agg #[])) 20 105 true).run Tryz.prog w=.ok (.tuple #[.agg #[],.bool true]) w:=by kernel_rfl
set_option maxHeartbeats 1000000 in
theorem catch_short(f o k r rb a b:Nat)(pv:Value)(okv:Value)(older:List PanicEntry)(w:World)(cs:Array Value)(b0:Value)
 (hf:Bk w f 3 #[.int .i64 a]) (ho:Bk w o 27 #[pv]) (hk:Bk w k 4 #[okv]) (hr:Bk w r 75 #[ptr rb]) (hrb:Bk w rb 77 #[b0,.int .i64 b]) :
 CallsD Tryz.prog 44 #[ptr f,ptr o,ptr k,ptr r] (.panicking ({v:=shortV,recovered:=false}::older)) w fun e u' w' =>
  e=.returned (.tuple #[])∧u'=.panicking ({v:=shortV,recovered:=true}::older)∧w'=((((w.alloc (.cells #[] 105)).setCell ⟨o,0,none⟩ (.slice none 0 0)).setCell ⟨k,0,none⟩ (.bool false)).setCell ⟨rb,1,none⟩ (.int .i64 a)):=by
 unfold ptr shortV;refine callsD_of_wpS Tryz.func44 rfl fun c₀ cs hu=>?_
 apply wpS_seq
 apply wpS_region
 simp[wpOpsS,go_sem,recoverD,hu,Tryz.ntmps44,Exit.thenS];refine wpS_of_wp ?_;have hta:=assert_short w;have r0:=(hr.alloc (.cells #[] 105)).at_ (i:=0) (u:=ptr rb) rfl;have f0:=(hf.alloc (.cells #[] 105)).at_ (i:=0) (u:=.int .i64 a) rfl;have o0:=(ho.alloc (.cells #[] 105)).at_ (i:=0) (u:=pv) rfl;have k0:=(hk.alloc (.cells #[] 105)).at_ (i:=0) (u:=okv) rfl;have b1:=(hrb.alloc (.cells #[] 105)).at_ (i:=1) (u:=.int .i64 b) rfl;have z1:=(ho.alloc (.cells #[] 105)).free 0;have z2:=(hk.alloc (.cells #[] 105)).free 0;have z3:=(hrb.alloc (.cells #[] 105)).free 1;have n1:¬ o=k:=bk_ne ho hk (by decide);have n2:¬ k=o:=fun e=>n1 e.symm;have n3:¬ rb=o:=bk_ne hrb ho (by decide);have n4:¬ rb=k:=bk_ne hrb hk (by decide);have n5:¬ o=rb:=fun e=>n3 e.symm;have n6:¬ k=rb:=fun e=>n4 e.symm;have HF:=hide hf;have HO:=hide ho;have HK:=hide hk;have HR:=hide hr;have HRB:=hide hrb;unfold ptr at r0;clear hf ho hk hr hrb hu
 change Code.wp _ _ _ {tmps:=#[.pointer (some ⟨f,0,none⟩),.pointer (some ⟨o,0,none⟩),.pointer (some ⟨k,0,none⟩),.pointer (some ⟨r,0,none⟩),.iface 105 (.agg #[]),undef,undef,.iface 105 (.agg #[]),undef,undef,undef,undef,undef,undef,undef,undef,undef,undef,undef,undef,undef,undef],defers:=[]} w
 generalize hQ:(fun(e:Exit) (a':Act) (w':World)=>bodyPostS _ _ c₀ cs _ e a' _ w')=Q;have HQ:=hide hQ;clear hQ
 go_wp2_with fail
 have hQ:=HQ.out;subst hQ;refine⟨rfl,_,rfl,_,?_,rfl,rfl,rfl⟩;simp[results,Tryz.results44]
set_option maxHeartbeats 1000000 in
theorem catch_idle(f o k r:Nat)(w:World) :
 CallsD Tryz.prog 44 #[ptr f,ptr o,ptr k,ptr r] .returning w fun e u' w'=>e=.returned (.tuple #[])∧u'=.returning∧w'=w:=by
 unfold ptr;refine callsD_of_wpS Tryz.func44 rfl fun c₀ cs hu=>?_
 apply wpS_seq
 apply wpS_region
 simp[wpOpsS,go_sem,recoverD,hu,Tryz.ntmps44,Exit.thenS];refine wpS_of_wp ?_
 change Code.wp _ _ _ {tmps:=#[.pointer (some ⟨f,0,none⟩),.pointer (some ⟨o,0,none⟩),.pointer (some ⟨k,0,none⟩),.pointer (some ⟨r,0,none⟩),.nilIface,undef,undef,.nilIface,undef,undef,undef,undef,undef,undef,undef,undef,undef,undef,undef,undef,undef,undef],defers:=[]} w
 generalize hQ:(fun(e:Exit) (a':Act) (w':World)=>bodyPostS _ _ c₀ cs _ e a' _ w')=Q;have HQ:=hide hQ;have HU:=hide hu;clear hQ hu
 go_wp2_with fail
 have hQ:=HQ.out;have hu:=HU.out;subst hQ;refine⟨rfl,_,?_,_,?_,rfl,rfl,rfl⟩
 ·cases c₀;simp only at hu;subst hu;rfl
 ·simp[results,Tryz.results44]
end RecW
