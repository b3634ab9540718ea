/- Texts of this seat,put together: WkCells. -/
import Derived.Test.YtlaipigilikmbaaGreatDoorMb14
namespace Go.Proofs.YtlaipigilikmbaaGreatDoor
noncomputable section
set_option linter.unusedVariables false
set_option linter.unusedSimpArgs false
namespace Ph
open Conc Co Cl
def payC(C:Cfg)(k:Nat)(v:Value)(D:Bl):Prop:=(∀b,¬D b)∧∃ A m c,v=seenV k (C.pg k) A m c
def mk0(C:Cfg)(LoopA LoadA:Goroutine→World→Prop)(SpA:Nat→Bl→Goroutine→World→Prop)(RecA Fin:List Nat→Bl→Bl→Goroutine→World→Prop):Cx :=
 {P:=Tryz.prog,Y:={n0:=C.n0,Z:=C.Z,ro:=C.ro,nx:=C.bn,wg:=C.bw,cl:=C.cl,chb:=C.bc},n:=C.n,L:=C.L,nxO:=nxObj,wgO:=wgObj,pay:=payC C,LoopA:=LoopA,LoadA:=LoadA,SpA:=SpA,RecA:=RecA,Fin:=Fin,W:=C.W0}
section
variable {w:World}{b:Nat}{st sm c:Int}
theorem wg_st(h:w.heap[b]? = some (wgObj st sm)):w.cell? (adr b)=some (.int .u64 st):=by simp[World.cell?,h,wgObj]
theorem wg_sm(h:w.heap[b]? = some (wgObj st sm)):w.cell? ⟨b,1,none⟩=some (.int .u32 sm):=by simp[World.cell?,h,wgObj]
theorem wg_fz(h:w.heap[b]? = some (wgObj st sm))(o:Nat):w.frozen? ⟨b,o,none⟩=false:=by simp[World.frozen?,h,wgObj]
theorem wg_set(h:w.heap[b]? = some (wgObj st sm))(s:Int):w.setCell (adr b) (.int .u64 s)=put w b (wgObj s sm):=by
 have hl:=(Array.getElem?_eq_some_iff.1 h);obtain⟨hl,he⟩:=hl;unfold World.setCell put
 congr 1
 apply Array.ext
 ·simp
 ·intro i h1 h2;by_cases hi:b=i
  ·subst hi;simp[Array.getElem_modify,he,wgObj]
  ·rw[Array.getElem_modify,if_neg hi,Array.getElem_setIfInBounds,if_neg hi]
theorem wg_setm(h:w.heap[b]? = some (wgObj st sm))(s:Int):w.setCell ⟨b,1,none⟩ (.int .u32 s)=put w b (wgObj st s):=by
 have hl:=(Array.getElem?_eq_some_iff.1 h);obtain⟨hl,he⟩:=hl;unfold World.setCell put
 congr 1
 apply Array.ext
 ·simp
 ·intro i h1 h2;by_cases hi:b=i
  ·subst hi;simp[Array.getElem_modify,he,wgObj]
  ·rw[Array.getElem_modify,if_neg hi,Array.getElem_setIfInBounds,if_neg hi]
theorem nx_c(h:w.heap[b]? = some (nxObj c)):w.cell? (adr b)=some (.int .i64 c):=by simp[World.cell?,h,nxObj]
theorem nx_fz(h:w.heap[b]? = some (nxObj c))(o:Nat):w.frozen? ⟨b,o,none⟩=false:=by simp[World.frozen?,h,nxObj]
theorem nx_set(h:w.heap[b]? = some (nxObj c))(s:Int):w.setCell (adr b) (.int .i64 s)=put w b (nxObj s):=by
 have hl:=(Array.getElem?_eq_some_iff.1 h);obtain⟨hl,he⟩:=hl;unfold World.setCell put
 congr 1
 apply Array.ext
 ·simp
 ·intro i h1 h2;by_cases hi:b=i
  ·subst hi;simp[Array.getElem_modify,he,nxObj]
  ·rw[Array.getElem_modify,if_neg hi,Array.getElem_setIfInBounds,if_neg hi]
end
theorem evS1{b o:Nat}{m:Bool}:EvS b #[⟨.cell ⟨b,o,none⟩,m,true⟩]:=by
 intro e he;simp only[List.mem_toArray,List.mem_singleton]at he;subst he;exact .inl ⟨_,rfl,rfl,rfl⟩
theorem evS2{b o o':Nat}{m m':Bool}:EvS b #[⟨.cell ⟨b,o,none⟩,m,true⟩,⟨.cell ⟨b,o',none⟩,m',true⟩]:=by
 intro e he;simp only[List.mem_toArray,List.mem_cons,List.not_mem_nil,or_false]at he
 rcases he with rfl|rfl<;>exact .inl ⟨_,rfl,rfl,rfl⟩
end Ph
