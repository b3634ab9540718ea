/- Texts of this seat,put together: WkMid,WkFit,WkNewestL,WkNewestM,WkNewestW,WkNewestV,WkBest,WkSort,WkOwns,WkSorted,WkNewest4,WkEnds,LwRules. -/
import Derived.Test.YtlaipigilikmbaaGreatDoorMb27
import Derived.Deep.MidRow
import Derived.Test.YtlaipigilikmbaaGreatDoorMb25
import Derived.Maps.Own
import Derived.Shelf.SlIterI.Nil
import Derived.Shelf.SortM.Plain
import Derived.Shelf.SortM.SortNone
import Derived.Ground.GgzProg
import Derived.Ground.SlgmProg
import Derived.Test.YtlaipigilikmbaaGreatDoorMb11
namespace Go.Proofs.YtlaipigilikmbaaGreatDoor
noncomputable section
set_option linter.unusedVariables false
set_option linter.unusedSimpArgs false
namespace Ph
open Conc Co Cl
section
variable {X:Cx}{main:Bool}{Stop:Bl→Goroutine→World→Prop}{own:Bl}{w:World}{g:Goroutine}{o:Oper}
theorem Gl.loadMid{ty t:TypeId}{x:Operand}{b off:Nat}{full:Array Value}{cs:Array Value}{fz:Nat×Nat}{d:TypeDesc}(h:AtO g o)(hs:g.status=.running)(hop:o.op=.load ty x)(hx:(aOf g).eval x=.pointer (some ⟨b,off,none⟩))(hb:w.heap[b]? = some (.cells full t fz))(hp:∀ j v,cs.toList[j]? = some v→full[off+j]? = some v)(ho:own b∨X.Y.ro b)
 (hd:(match d with|.struct _|.array _ _=>true|_=>false)=true) (hu:X.P.underlying ty=some d) (hi:(X.P.info? ty).map (·.size)=some cs.size)
 (hn:Gl X main dT Stop own (fin g (.agg cs)) w):Gl X main dT Stop own g w:=by
 refine Gl.still hs (fun w₁ h₁ hl=>?_) hn
 have hb1:w₁.heap[b]? = some (.cells full t fz):=by
  rw[h₁.rel.keep b ho (Array.getElem?_eq_some_iff.1 hb).1];exact hb
 have hld:=run_loadVar_mid (P:=X.P) w₁ b off ty cs.toList d (fun j v hv=>by simpa[World.cell?,hb1] using hp j v hv) hu (by cases d<;>first|rfl|cases hd) (by simpa using hi)
 have hex:execOp (aOf g).eval o=(do Pure.pure (Next.value (←loadVar ty ⟨b,off,none⟩))):=by
  unfold execOp;simp only[hop,hx];rfl
 have hrun:(execOp (aOf g).eval o).run X.P w₁=.ok (.value (.agg cs)) w₁:=by
  rw[hex,Sem.run_bind,hld,Result.andThen_ok];rfl
 refine⟨_,step_value h hrun,trivial,fun e hm=>?_⟩;have he:=mem_seen hm;rw[hex,Sem.events_bind,hld,Result.evThen_ok]at he;have he2:e∈(loadVar ty ⟨b,off,none⟩).events X.P w₁ #[]:=he
 have hag:(isAgg ty).run X.P w₁=.ok true w₁∧(isAgg ty).events X.P w₁ #[]=#[]:=by
  have hq:Qt X.P (isAgg ty) true:=by
   unfold isAgg;refine(Qt.under hu).bind ?_
   cases d<;>first|exact .pure _|cases hd
  exact⟨by rw[←Sem.runT_fst X.P _ w₁ #[],hq],by unfold Sem.events;rw[hq]⟩
 cases hq:X.P.info? ty with
 |none=>rw[hq]at hi;cases hi
 |some i =>
  have hs2:i.size=cs.size:=by simpa[hq] using hi
  have hsz:(sizeOf ty).run X.P w₁=.ok i.size w₁∧(sizeOf ty).events X.P w₁ #[]=#[]:=by
   have hqt:Qt X.P (sizeOf ty) i.size:=by
    unfold sizeOf;refine Qt.bind (a:=i) ?_ (.pure _);unfold typeInfo;refine Qt.program.bind ?_;rw[hq];exact .pure _
   exact⟨by rw[←Sem.runT_fst X.P _ w₁ #[],hqt],by unfold Sem.events;rw[hqt]⟩
  unfold loadVar at he2;rw[Sem.events_bind,hag.1,hag.2,Result.evThen_ok]at he2;simp only[if_true]at he2;rw[Sem.events_bind,hsz.1,hsz.2,Result.evThen_ok,Sem.events_bind]at he2
  have he3:e∈(loadCells ⟨b,off,none⟩ i.size).events X.P w₁ #[]:=by
   revert he2
   cases (loadCells ⟨b,off,none⟩ i.size).run X.P w₁ with
   |ok a w2=>exact fun h=>h
   |halt a w2=>exact fun h=>h
  rcases gG b _ 0 off #[] w₁ #[] ⟨full,t,fz,hb1⟩ e he3 with h|⟨ad,rfl,hab⟩
  ·simp at h
  ·exact .inl ⟨ad,rfl,rfl,by rw[hab];exact ho.imp id fun h=>⟨h,rfl⟩⟩
end
def fndOf(pg:Nat→List UInt8)(k:Nat):Fnd:=⟨(opn (pg k)).2.1,k,(opn (pg k)).2.2.1,(opn (pg k)).1⟩
def dJ(pg:Nat→List UInt8)(k:Nat):Prop:=(opn (pg k)).2.2.2=2∧((opn (pg k)).1=1∨(opn (pg k)).1=2)
def dD(x o:Fnd):Prop:=o.seq<x.seq∨(x.seq=o.seq∧o.page<x.page)
open Classical in
def stepF(pg:Nat→List UInt8)(k:Nat)(l:List Fnd):List Fnd :=
 if dJ pg k then(match look1 (fndOf pg k).lba l with|none=>upd (fndOf pg k) l|some o=>if dD (fndOf pg k) o then upd (fndOf pg k) l else l) else l
def aH(pg:Nat→List UInt8):List Nat→List Fnd
 |[]=>[]
 |k::R=>stepF pg k (aH pg R)
end Ph
namespace Ph
open Conc Co Cl
open Go.WideElems (Fit)
def anyR(_:Value):Option (DataW Nat×List MemPlace):=some (.nil,[])
theorem fnd_none{x:Int}:∀ {l:List Fnd} {i:Nat},fnd x l i=none→∀ e∈l,e.lba≠x
 |f::l,i,h,e,he=>by
  unfold fnd at h;by_cases e1:x=f.lba
  ·rw[if_pos e1]at h;cases h
  ·rw[if_neg e1]at h;rcases List.mem_cons.1 he with e2|e2
   ·rw[e2];exact fun e3=>e1 e3.symm
   ·exact fnd_none h e e2
theorem stamped_upd{es es':Array MapEntry}{clk clk':Nat}{l:List Fnd}{x:Fnd}(h:bP es l)(hs:MapKept.Stamped es clk)(hu:updE es clk l x=.map es' clk'):MapKept.Stamped es' clk':=by
 unfold updE at hu
 cases hf:fnd x.lba l 0 with
 |none =>
  rw[hf]at hu;injection hu with h1 h2;subst h1;subst h2;refine MapKept.stamped_push hs fun y hy e=>?_
  have:(y.key,y.val)∈l.map fun x=>(Value.int .i64 x.lba,fv x):=by rw[←h];exact List.mem_map.2 ⟨y,hy,rfl⟩
  obtain⟨z,hz,e2⟩:=List.mem_map.1 this;have e3:Value.int .i64 z.lba=y.key:=congrArg Prod.fst e2;rw[e]at e3;injection e3 with _ e4;exact fnd_none hf z hz e4
 |some r =>
  obtain⟨j,v⟩:=r;rw[hf]at hu;injection hu with h1 h2;subst h1;subst h2;obtain⟨-,e0,k1,k2⟩:=fnd_at x.lba es.toList l 0 h j v hf;refine MapKept.stamped_modify hs j _ (fun _ _=>rfl) fun e he hj=>?_
  have k3:es[j]? = some e0:=by simpa using k1
  rw[k3]at hj;cases hj;exact k2.symm
end Ph
namespace Ph
open Conc Co Cl
def nHold(C:Cfg)(bm:Nat)(R:List Nat)(w:World):Prop:=∃ es clk,w.heap[bm]? = some (.map es clk)∧bP es (aH C.pg R)∧MapKept.Stamped es clk
section
variable (C:Cfg)(c:Frame)(cs:List Frame)(bm:Nat)
def nwFC:Frame:=nwF C.Ap C.L C.cp C.n c cs bm
def nwRC(f:Nat→Value):Goroutine:=nwR C.Ap C.L C.cp C.n c cs bm C.bc f
def nwVC(f:Nat→Value)(k:Nat)(sl:Value):Goroutine:=nwV C.Ap C.L C.cp C.n c cs bm C.bc f k (opn (C.pg k)).1 (opn (C.pg k)).2.1 (opn (C.pg k)).2.2.1 (opn (C.pg k)).2.2.2 sl
def nwWC(f:Nat→Value):Goroutine:=nwW C.Ap C.L C.cp C.n c cs bm C.bc f
def nRec(R:List Nat)(_ own:Bl)(g:Goroutine)(w:World):Prop :=
 RoOk C w∧own bm∧((R=[]∧nHold C bm [] w∧∃ f,g=lkUC C (nwFC C c cs bm) (c::cs) f)∨∃k R' A m cc f,R=k::R'∧k<C.L∧nHold C bm R' w∧g=nwVC C c cs bm f k (.slice A m cc))
def nFin(R:List Nat)(_ own:Bl)(g:Goroutine)(w:World):Prop:=RoOk C w∧own bm∧nHold C bm R w∧∃ f,g=nwWC C c cs bm f
def nX(ob:Obj):Cx:=mk0 C (loopA C) (loadA C) (spA C (nwFC C c cs bm) (c::cs) bm ob) (nRec C c cs bm) (nFin C c cs bm)
end
section
variable {C:Cfg}{c:Frame}{cs:List Frame}{bm:Nat}{ob:Obj}{own:Bl}{w:World}
theorem nHold.rely{R:List Nat}(h:nHold C bm R w){w₁:World}(ho:own bm)(hr:RR (nX C c cs bm ob) own w w₁):nHold C bm R w₁:=by
 obtain⟨es,clk,h1,h2⟩:=h;exact⟨es,clk,(hr.rel.keep bm (.inl ho) (Array.getElem?_eq_some_iff.1 h1).1).trans h1,h2⟩
theorem n_at{R:List Nat}{dt:Bl}(hr:RoOk C w)(ho:own bm)(hh:nHold C bm R w)(f:Nat→Value):MRecv (nX C c cs bm ob) R dt own (nwRC C c cs bm f) w:=by
 refine⟨nwR_run C.Ap C.L C.cp C.n c cs bm C.bc f,zSeen,nwR_recv C.Ap C.L C.cp C.n c cs bm C.bc f w,fun k v D w₁ h₁ hp hk=>?_,fun w₁ h₁=>⟨hr.rely h₁,ho,hh.rely ho h₁,f,rfl⟩⟩;obtain⟨-,A,m,cc,rfl⟩:=hp;exact⟨hr.rely h₁,ho,.inr ⟨k,R,A,m,cc,f,rfl,hk,hh.rely ho h₁,rfl⟩⟩
structure Mid(C:Cfg)(bm b8 b9 k:Nat)(R:List Nat)(sl:Value)(own:Bl)(w:World):Prop where
 ro:RoOk C w
 om:own bm
 o8:own b8
 o9:own b9
 n8:b8≠bm
 n9:b9≠bm
 n89:b8≠b9
 h8:w.heap[b8]? = some (.cells (sv6 k (opn (C.pg k)).1 (opn (C.pg k)).2.1 (opn (C.pg k)).2.2.1 (opn (C.pg k)).2.2.2 sl) 85 (0,0))
 h9:w.heap[b9]? = some (.cells (fr4 (opn (C.pg k)).1 (opn (C.pg k)).2.1 (opn (C.pg k)).2.2.1 sl) 53 (0,0))
 hold:nHold C bm R w
theorem Mid.rely{b8 b9 k:Nat}{R:List Nat}{sl:Value}(h:Mid C bm b8 b9 k R sl own w){w₁:World}(hr:RR (nX C c cs bm ob) own w w₁):Mid C bm b8 b9 k R sl own w₁ :=
 ⟨h.ro.rely hr,h.om,h.o8,h.o9,h.n8,h.n9,h.n89,(hr.rel.keep b8 (.inl h.o8) (Array.getElem?_eq_some_iff.1 h.h8).1).trans h.h8,(hr.rel.keep b9 (.inl h.o9) (Array.getElem?_eq_some_iff.1 h.h9).1).trans h.h9,h.hold.rely h.om hr⟩
theorem n_upd(hnr:¬ C.ro bm){b8 b9 k:Nat}{R:List Nat}{sl:Value}{dt:Bl}(h:Mid C bm b8 b9 k R sl own w)(hbest:aH C.pg (k::R)=upd (fndOf C.pg k) (aH C.pg R))(f:Nat→Value) :
 Gl (nX C c cs bm ob) true dT (MRecv (nX C c cs bm ob) (k::R) dt) own (nuU C.Ap C.L C.cp C.n c cs bm C.bc b8 b9 f) w:=by
 have c91:w.cell? ⟨b9,1,none⟩=some (.int .i64 (opn (C.pg k)).2.1):=by simp[World.cell?,h.h9,fr4]
 have c92:w.cell? ⟨b9,2,none⟩=some (.int .i64 (opn (C.pg k)).2.2.1):=by simp[World.cell?,h.h9,fr4]
 have c90:w.cell? ⟨b9,0,none⟩=some (.int .i64 (opn (C.pg k)).1):=by simp[World.cell?,h.h9,fr4]
 have c80:w.cell? ⟨b8,0,none⟩=some (.int .i64 k):=by simp[World.cell?,h.h8,sv6]
 refine Gl.load (X:=nX C c cs bm ob) (a:=⟨b9,1,none⟩) (v:=.int .i64 (opn (C.pg k)).2.1) (nuU_at C.Ap C.L C.cp C.n c cs bm C.bc b8 b9 f) (by kernel_rfl) (fun w₁=>by kernel_rfl) (aF c91 (.inl h.o9)) (.inl h.o9) ?_;refine Gl.calms dT0 1 (nuA0_calm C.Ap C.L C.cp C.n c cs bm C.bc b8 b9 f _) ?_;refine Gl.load (X:=nX C c cs bm ob) (a:=⟨b9,1,none⟩) (v:=.int .i64 (opn (C.pg k)).2.1) (nuA_at C.Ap C.L C.cp C.n c cs bm C.bc b8 b9 f _) (by kernel_rfl) (fun w₁=>by kernel_rfl) (aF c91 (.inl h.o9)) (.inl h.o9) ?_;refine Gl.calms dT0 1 (nuB0_calm C.Ap C.L C.cp C.n c cs bm C.bc b8 b9 f _) ?_;refine Gl.load (X:=nX C c cs bm ob) (a:=⟨b8,0,none⟩) (v:=.int .i64 k) (nuB_at C.Ap C.L C.cp C.n c cs bm C.bc b8 b9 f _) (by kernel_rfl) (fun w₁=>by kernel_rfl) (aF c80 (.inl h.o8)) (.inl h.o8) ?_;refine Gl.calms dT0 1 (nuC0_calm C.Ap C.L C.cp C.n c cs bm C.bc b8 b9 f _ k) ?_;refine Gl.load (X:=nX C c cs bm ob) (a:=⟨b9,2,none⟩) (v:=.int .i64 (opn (C.pg k)).2.2.1) (nuC_at C.Ap C.L C.cp C.n c cs bm C.bc b8 b9 f _ k) (by kernel_rfl) (fun w₁=>by kernel_rfl) (aF c92 (.inl h.o9)) (.inl h.o9) ?_;refine Gl.calms dT0 1 (nuD0_calm C.Ap C.L C.cp C.n c cs bm C.bc b8 b9 f _ _ k) ?_;refine Gl.load (X:=nX C c cs bm ob) (a:=⟨b9,0,none⟩) (v:=.int .i64 (opn (C.pg k)).1) (nuD_at C.Ap C.L C.cp C.n c cs bm C.bc b8 b9 f _ _ k) (by kernel_rfl) (fun w₁=>by kernel_rfl) (aF c90 (.inl h.o9)) (.inl h.o9) ?_;refine Gl.calms dT0 1 (nuG0_calm C.Ap C.L C.cp C.n c cs bm C.bc b8 b9 f _ _ _ k) ?_;obtain⟨es,clk,m1,m2,m3⟩:=h.hold;refine Gl.update (X:=nX C c cs bm ob) (mt:=81) (kt:=3) (et:=60) (d:=.i64) (x:=fndOf C.pg k) (nuG_at C.Ap C.L C.cp C.n c cs bm C.bc b8 b9 f _ _ _ k) (by kernel_rfl) (nuG_op C.Ap C.L C.cp C.n c cs bm C.bc b8 b9 f (opn (C.pg k)).1 (opn (C.pg k)).2.1 (opn (C.pg k)).2.2.1 k) (by kernel_rfl) (by kernel_rfl) m1 h.om m2 ?_;intro w₁ h₁ _;have hm1:=h.rely h₁;obtain⟨es',clk',u1,u2⟩:=upd_ents (clk:=clk) (fndOf C.pg k) m2;rw[u1]
 have hl:bm<w₁.heap.size:=by
  obtain⟨_,_,q,-⟩:=hm1.hold;exact(Array.getElem?_eq_some_iff.1 q).1
 have hr2:RoOk C {w₁ with heap:=w₁.heap.setIfInBounds bm (.map es' clk')}:=hm1.ro.put hnr;have hh2:nHold C bm (k::R) {w₁ with heap:=w₁.heap.setIfInBounds bm (.map es' clk')}:=⟨es',clk',by simp[hl],by rw[hbest];exact u2,stamped_upd m2 m3 u1⟩;refine Gl.calms dT0 5 (nuG_calm C.Ap C.L C.cp C.n c cs bm C.bc b8 b9 f (opn (C.pg k)).1 (opn (C.pg k)).2.1 (opn (C.pg k)).2.2.1 k) ?_;show Gl (nX C c cs bm ob) true dT _ _ (it Tryz.prog 5 (fin (nuG C.Ap C.L C.cp C.n c cs bm C.bc b8 b9 f (opn (C.pg k)).1 (opn (C.pg k)).2.1 (opn (C.pg k)).2.2.1 k) undef)) _;rw[nuG_it];exact .stop fun w₂ h₂=>n_at (hr2.rely h₂) h.om (hh2.rely h.om h₂) _
end
end Ph
namespace Ph
open Conc Co Cl
def rowF(x:Fnd):Array Value:=#[.int .i64 x.lba,.int .i64 x.page,.int .i64 x.seq,.int .i64 x.kind]
section
variable {C:Cfg}{c:Frame}{cs:List Frame}{bm:Nat}{ob:Obj}{own:Bl}{w:World}{Stop:Bl→Goroutine→World→Prop}
theorem n_box{b8 b9 k:Nat}{R:List Nat}{sl:Value}(h:Mid C bm b8 b9 k R sl own w)(f:Nat→Value)(a2:Int)(o:Fnd)(ok:Bool)
 (hk:∀ b10 own' w',Mid C bm b8 b9 k R sl own' w'→own' b10→w'.heap[b10]? = some (.cells (rowF o) 60 (0,0))→Gl (nX C c cs bm ob) true dT Stop own' (fin (nwO2 C.Ap C.L C.cp C.n c cs bm C.bc b8 b9 f a2 o ok b10) undef) w') :
 Gl (nX C c cs bm ob) true dT Stop own (nwO C.Ap C.L C.cp C.n c cs bm C.bc b8 b9 f a2 o ok) w:=by
 refine Gl.calms dT0 3 (nwO_calm C.Ap C.L C.cp C.n c cs bm C.bc b8 b9 f a2 o ok) ?_;refine Gl.alloc (X:=nX C c cs bm ob) (ob:=.cells (rowF zFnd) 60 (0,0)) (nwO1_at C.Ap C.L C.cp C.n c cs bm C.bc b8 b9 f a2 o ok) (by kernel_rfl) (fun w₂=>by kernel_rfl) ?_;intro w₂ h₂ _;have m2:=h.rely h₂;have l8:=(Array.getElem?_eq_some_iff.1 m2.h8).1;have l9:=(Array.getElem?_eq_some_iff.1 m2.h9).1;obtain⟨es,clk,q1,q2⟩:=m2.hold;have lm:=(Array.getElem?_eq_some_iff.1 q1).1
 have m3:Mid C bm b8 b9 k R sl (ownAdd own w₂.heap.size) {w₂ with heap:=w₂.heap.push (.cells (rowF zFnd) 60 (0,0))}:=by
  refine⟨m2.ro.push,.inl m2.om,.inl m2.o8,.inl m2.o9,m2.n8,m2.n9,m2.n89,?_,?_,es,clk,?_,q2⟩
  ·simp only[Array.getElem?_push];rw[if_neg (by omega)];exact m2.h8
  ·simp only[Array.getElem?_push];rw[if_neg (by omega)];exact m2.h9
  ·simp only[Array.getElem?_push];rw[if_neg (by omega)];exact q1
 have hrow:({w₂ with heap:=w₂.heap.push (.cells (rowF zFnd) 60 (0,0))}:World).heap[w₂.heap.size]? = some (.cells (rowF zFnd) 60 (0,0)):=by
  show(w₂.heap.push _)[w₂.heap.size]? = _;rw[Array.getElem?_push,if_pos rfl]
 have hnr:¬ C.ro w₂.heap.size:=fun e=>absurd (m2.ro.lt _ e) (by omega)
 have hne8:w₂.heap.size≠b8:=by omega
 have hne9:w₂.heap.size≠b9:=by omega
 have hnem:w₂.heap.size≠bm:=by omega
 generalize ({w₂ with heap:=w₂.heap.push (.cells (rowF zFnd) 60 (0,0))}:World)=wa at *;generalize w₂.heap.size=b10 at *;refine Gl.store (X:=nX C c cs bm ob) (ty:=60) (t:=60) (b:=b10) (old:=rowF zFnd) (new:=rowF o) (nwO2_at C.Ap C.L C.cp C.n c cs bm C.bc b8 b9 f a2 o ok b10) (by kernel_rfl) (x:=.tmp 10) (y:=.tmp 48) (by kernel_rfl) (by kernel_rfl) (by kernel_rfl) hrow (.inr rfl) (by kernel_rfl) rfl (by kernel_rfl) ?_;intro w₃ h₃ _;have m4:=m3.rely h₃;have hrow3:=(h₃.rel.keep b10 (.inl (.inr rfl)) (Array.getElem?_eq_some_iff.1 hrow).1).trans hrow
 have keep:∀ x,b10≠x→(w₃.setRow b10 (rowF o)).heap[x]? = w₃.heap[x]?:=fun x hx=>by
  simp only[World.setRow,Array.getElem?_modify];rw[if_neg hx]
 obtain⟨es,clk,q1,q2⟩:=m4.hold;exact hk b10 _ _ ⟨m4.ro.setRow hnr,m4.om,m4.o8,m4.o9,m4.n8,m4.n9,m4.n89,(keep b8 hne8).trans m4.h8,(keep b9 hne9).trans m4.h9,es,clk,(keep bm hnem).trans q1,q2⟩ (.inr rfl) (setRow_heap w₃ b10 _ _ _ _ hrow3)
theorem look_of{x:Int}{l:List Fnd}:(fnd x l 0=none∧look1 x l=none)∨∃j o,fnd x l 0=some (j,fv o)∧look1 x l=some o:=by
 have h:=fnd_look x l 0
 cases h1:fnd x l 0 with
 |none =>
  rw[h1]at h
  cases h2:look1 x l with
  |none=>exact .inl ⟨rfl,rfl⟩
  |some o=>rw[h2]at h;cases h
 |some r =>
  obtain⟨j,v⟩:=r;rw[h1]at h
  cases h2:look1 x l with
  |none=>rw[h2]at h;cases h
  |some o =>
   rw[h2]at h;simp only[Option.map_some,Option.some.injEq]at h;subst h;exact .inr ⟨j,o,rfl,rfl⟩
theorem n_look(hnr:¬ C.ro bm){b8 b9 k:Nat}{R:List Nat}{sl:Value}{dt:Bl}(h:Mid C bm b8 b9 k R sl own w)(hc:dJ C.pg k)(f:Nat→Value) :
 Gl (nX C c cs bm ob) true dT (MRecv (nX C c cs bm ob) (k::R) dt) own (nwL C.Ap C.L C.cp C.n c cs bm C.bc b8 b9 f) w:=by
 have c91:w.cell? ⟨b9,1,none⟩=some (.int .i64 (opn (C.pg k)).2.1):=by simp[World.cell?,h.h9,fr4]
 refine Gl.load (X:=nX C c cs bm ob) (a:=⟨b9,1,none⟩) (v:=.int .i64 (opn (C.pg k)).2.1) (nwL_at C.Ap C.L C.cp C.n c cs bm C.bc b8 b9 f) (by kernel_rfl) (fun w₁=>by kernel_rfl) (aF c91 (.inl h.o9)) (.inl h.o9) ?_;obtain⟨es,clk,m1,m2,-⟩:=h.hold;refine Gl.lookup (X:=nX C c cs bm ob) (mt:=81) (kt:=3) (et:=60) (d:=.i64) (x:=(opn (C.pg k)).2.1) (nwG_at C.Ap C.L C.cp C.n c cs bm C.bc b8 b9 f (opn (C.pg k)).2.1) (by kernel_rfl) (nwG_op C.Ap C.L C.cp C.n c cs bm C.bc b8 b9 f (opn (C.pg k)).2.1) (by kernel_rfl) (by kernel_rfl) (by kernel_rfl) m1 h.om m2 ?_
 have hb0:aH C.pg (k::R)=(match look1 (opn (C.pg k)).2.1 (aH C.pg R) with|none=>upd (fndOf C.pg k) (aH C.pg R)|some o=>@ite _ (dD (fndOf C.pg k) o) (Classical.propDecidable _) (upd (fndOf C.pg k) (aH C.pg R)) (aH C.pg R)):=by
  show stepF C.pg k (aH C.pg R)=_;unfold stepF;rw[if_pos hc];rfl
 rcases look_of (x:=(opn (C.pg k)).2.1) (l:=aH C.pg R) with⟨e1,e2⟩|⟨j,o,e1,e2⟩
 ·rw[e1];rw[e2]at hb0;refine n_box (C:=C) h f (opn (C.pg k)).2.1 zFnd false fun b10 own' w' hm ho10 hrow=>?_;refine Gl.calms dT0 32 (nuN_calm C.Ap C.L C.cp C.n c cs bm C.bc b8 b9 f (opn (C.pg k)).2.1 b10) ?_;show Gl (nX C c cs bm ob) true dT _ _ (it Tryz.prog 32 (nuN C.Ap C.L C.cp C.n c cs bm C.bc b8 b9 f (opn (C.pg k)).2.1 b10)) w';rw[nuN_it];exact n_upd hnr hm hb0 _
 ·rw[e1];rw[e2]at hb0;refine n_box (C:=C) h f (opn (C.pg k)).2.1 o true fun b10 own' w' hm ho10 hrow=>?_
  have d92:w'.cell? ⟨b9,2,none⟩=some (.int .i64 (opn (C.pg k)).2.2.1):=by simp[World.cell?,hm.h9,fr4]
  have d80:w'.cell? ⟨b8,0,none⟩=some (.int .i64 k):=by simp[World.cell?,hm.h8,sv6]
  have d2:w'.cell? ⟨b10,2,none⟩=some (.int .i64 o.seq):=by simp[World.cell?,hrow,rowF]
  have d1:w'.cell? ⟨b10,1,none⟩=some (.int .i64 o.page):=by simp[World.cell?,hrow,rowF]
  have yes:dD (fndOf C.pg k) o→aH C.pg (k::R)=upd (fndOf C.pg k) (aH C.pg R):=fun hb=>hb0.trans (if_pos hb);have no:¬ dD (fndOf C.pg k) o→aH C.pg (k::R)=aH C.pg R:=fun hb=>hb0.trans (if_neg hb);refine Gl.calms dT0 8 (nuY_calm C.Ap C.L C.cp C.n c cs bm C.bc b8 b9 f (opn (C.pg k)).2.1 o b10) ?_;refine Gl.load (X:=nX C c cs bm ob) (a:=⟨b9,2,none⟩) (v:=.int .i64 (opn (C.pg k)).2.2.1) (nuS0_at C.Ap C.L C.cp C.n c cs bm C.bc b8 b9 f (opn (C.pg k)).2.1 o b10) (by kernel_rfl) (fun w₁=>by kernel_rfl) (aF d92 (.inl hm.o9)) (.inl hm.o9) ?_;refine Gl.calms dT0 1 (nuS0_calm C.Ap C.L C.cp C.n c cs bm C.bc b8 b9 f (opn (C.pg k)).2.1 o b10 (opn (C.pg k)).2.2.1) ?_;refine Gl.load (X:=nX C c cs bm ob) (a:=⟨b10,2,none⟩) (v:=.int .i64 o.seq) (nuS1_at C.Ap C.L C.cp C.n c cs bm C.bc b8 b9 f (opn (C.pg k)).2.1 o b10 (opn (C.pg k)).2.2.1) (by kernel_rfl) (fun w₁=>by kernel_rfl) (aF d2 (.inl ho10)) (.inl ho10) ?_;refine Gl.calms dT0 1 (nuS2_calm C.Ap C.L C.cp C.n c cs bm C.bc b8 b9 f (opn (C.pg k)).2.1 o b10 (opn (C.pg k)).2.2.1) ?_;show Gl (nX C c cs bm ob) true dT _ _ (it Tryz.prog 1 (nuS2 C.Ap C.L C.cp C.n c cs bm C.bc b8 b9 f (opn (C.pg k)).2.1 o b10 (opn (C.pg k)).2.2.1)) w';rw[nuS2_it];by_cases t1:o.seq<(opn (C.pg k)).2.2.1
  ·rw[show decide (o.seq<(opn (C.pg k)).2.2.1)=true from decide_eq_true t1];refine Gl.calms dT0 20 (nuSt_calm C.Ap C.L C.cp C.n c cs bm C.bc b8 b9 f (opn (C.pg k)).2.1 o b10 (opn (C.pg k)).2.2.1) ?_;show Gl (nX C c cs bm ob) true dT _ _ (it Tryz.prog 20 (nuSt C.Ap C.L C.cp C.n c cs bm C.bc b8 b9 f (opn (C.pg k)).2.1 o b10 (opn (C.pg k)).2.2.1)) w';rw[nuSt_it];exact n_upd hnr hm (yes (.inl t1)) _
  rw[show decide (o.seq<(opn (C.pg k)).2.2.1)=false from decide_eq_false t1];refine Gl.calms dT0 3 (nuSf_calm C.Ap C.L C.cp C.n c cs bm C.bc b8 b9 f (opn (C.pg k)).2.1 o b10 (opn (C.pg k)).2.2.1) ?_;refine Gl.load (X:=nX C c cs bm ob) (a:=⟨b9,2,none⟩) (v:=.int .i64 (opn (C.pg k)).2.2.1) (nuQ0_at C.Ap C.L C.cp C.n c cs bm C.bc b8 b9 f (opn (C.pg k)).2.1 o b10 (opn (C.pg k)).2.2.1) (by kernel_rfl) (fun w₁=>by kernel_rfl) (aF d92 (.inl hm.o9)) (.inl hm.o9) ?_;refine Gl.calms dT0 1 (nuQ0_calm C.Ap C.L C.cp C.n c cs bm C.bc b8 b9 f (opn (C.pg k)).2.1 o b10 (opn (C.pg k)).2.2.1) ?_;refine Gl.load (X:=nX C c cs bm ob) (a:=⟨b10,2,none⟩) (v:=.int .i64 o.seq) (nuQ1_at C.Ap C.L C.cp C.n c cs bm C.bc b8 b9 f (opn (C.pg k)).2.1 o b10 (opn (C.pg k)).2.2.1) (by kernel_rfl) (fun w₁=>by kernel_rfl) (aF d2 (.inl ho10)) (.inl ho10) ?_;refine Gl.calms dT0 1 (nuQ2_calm C.Ap C.L C.cp C.n c cs bm C.bc b8 b9 f (opn (C.pg k)).2.1 o b10 (opn (C.pg k)).2.2.1) ?_;show Gl (nX C c cs bm ob) true dT _ _ (it Tryz.prog 1 (nuQ2 C.Ap C.L C.cp C.n c cs bm C.bc b8 b9 f (opn (C.pg k)).2.1 o b10 (opn (C.pg k)).2.2.1)) w';rw[nuQ2_it];by_cases t2:¬ (opn (C.pg k)).2.2.1=o.seq
  ·rw[show decide ((opn (C.pg k)).2.2.1=o.seq)=false from decide_eq_false t2];refine Gl.calms dT0 15 (nuQf_calm C.Ap C.L C.cp C.n c cs bm C.bc b8 b9 f (opn (C.pg k)).2.1 o b10 (opn (C.pg k)).2.2.1) ?_;show Gl (nX C c cs bm ob) true dT _ _ (it Tryz.prog 15 (nuQf C.Ap C.L C.cp C.n c cs bm C.bc b8 b9 f (opn (C.pg k)).2.1 o b10 (opn (C.pg k)).2.2.1)) w';rw[nuQf_it];have hb:=no (fun hb=>by rcases hb with hb|hb;exact t1 hb;exact t2 hb.1);exact .stop fun w₂ h₂=>n_at ((hm.rely h₂).ro) hm.om (by obtain⟨es,clk,q1,q2⟩:=(hm.rely h₂).hold;exact⟨es,clk,q1,by rw[hb];exact q2⟩) _
  have t2:=Classical.not_not.1 t2;rw[show decide ((opn (C.pg k)).2.2.1=o.seq)=true from decide_eq_true t2];refine Gl.calms dT0 2 (nuQt_calm C.Ap C.L C.cp C.n c cs bm C.bc b8 b9 f (opn (C.pg k)).2.1 o b10 (opn (C.pg k)).2.2.1) ?_;refine Gl.load (X:=nX C c cs bm ob) (a:=⟨b8,0,none⟩) (v:=.int .i64 k) (nuE0_at C.Ap C.L C.cp C.n c cs bm C.bc b8 b9 f (opn (C.pg k)).2.1 o b10 (opn (C.pg k)).2.2.1) (by kernel_rfl) (fun w₁=>by kernel_rfl) (aF d80 (.inl hm.o8)) (.inl hm.o8) ?_;refine Gl.calms dT0 1 (nuE0_calm C.Ap C.L C.cp C.n c cs bm C.bc b8 b9 f (opn (C.pg k)).2.1 o b10 (opn (C.pg k)).2.2.1 k) ?_;refine Gl.load (X:=nX C c cs bm ob) (a:=⟨b10,1,none⟩) (v:=.int .i64 o.page) (nuE1_at C.Ap C.L C.cp C.n c cs bm C.bc b8 b9 f (opn (C.pg k)).2.1 o b10 (opn (C.pg k)).2.2.1 k) (by kernel_rfl) (fun w₁=>by kernel_rfl) (aF d1 (.inl ho10)) (.inl ho10) ?_;refine Gl.calms dT0 1 (nuE2_calm C.Ap C.L C.cp C.n c cs bm C.bc b8 b9 f (opn (C.pg k)).2.1 o b10 (opn (C.pg k)).2.2.1 k) ?_;show Gl (nX C c cs bm ob) true dT _ _ (it Tryz.prog 1 (nuE2 C.Ap C.L C.cp C.n c cs bm C.bc b8 b9 f (opn (C.pg k)).2.1 o b10 (opn (C.pg k)).2.2.1 k)) w';rw[nuE2_it];by_cases t3:o.page<(k:Int)
  ·rw[show decide (o.page<(k:Int))=true from decide_eq_true t3];refine Gl.calms dT0 7 (nuEt_calm C.Ap C.L C.cp C.n c cs bm C.bc b8 b9 f (opn (C.pg k)).2.1 o b10 (opn (C.pg k)).2.2.1 k) ?_;show Gl (nX C c cs bm ob) true dT _ _ (it Tryz.prog 7 (nuEt C.Ap C.L C.cp C.n c cs bm C.bc b8 b9 f (opn (C.pg k)).2.1 o b10 (opn (C.pg k)).2.2.1 k)) w';rw[nuEt_it];exact n_upd hnr hm (yes (.inr ⟨t2,t3⟩)) _
  ·rw[show decide (o.page<(k:Int))=false from decide_eq_false t3];refine Gl.calms dT0 9 (nuEf_calm C.Ap C.L C.cp C.n c cs bm C.bc b8 b9 f (opn (C.pg k)).2.1 o b10 (opn (C.pg k)).2.2.1 k) ?_;show Gl (nX C c cs bm ob) true dT _ _ (it Tryz.prog 9 (nuEf C.Ap C.L C.cp C.n c cs bm C.bc b8 b9 f (opn (C.pg k)).2.1 o b10 (opn (C.pg k)).2.2.1 k)) w';rw[nuEf_it];have hb:=no (fun hb=>by rcases hb with hb|hb;exact t1 hb;exact t3 hb.2);exact .stop fun w₂ h₂=>n_at ((hm.rely h₂).ro) hm.om (by obtain⟨es,clk,q1,q2⟩:=(hm.rely h₂).hold;exact⟨es,clk,q1,by rw[hb];exact q2⟩) _
end
end Ph
namespace Ph
open Conc Co Cl
section
variable {C:Cfg}{c:Frame}{cs:List Frame}{bm:Nat}{ob:Obj}{own:Bl}{w:World}
theorem n_same{b8 b9 k:Nat}{R:List Nat}{sl:Value}{dt:Bl}(h:Mid C bm b8 b9 k R sl own w)(hb:aH C.pg (k::R)=aH C.pg R)(f:Nat→Value):Gl (nX C c cs bm ob) true dT (MRecv (nX C c cs bm ob) (k::R) dt) own (nwR C.Ap C.L C.cp C.n c cs bm C.bc f) w :=
 .stop fun w₂ h₂=>n_at ((h.rely h₂).ro) h.om (by obtain⟨es,clk,q1,q2⟩:=(h.rely h₂).hold;exact⟨es,clk,q1,by rw[hb];exact q2⟩) _
theorem best_not{pg:Nat→List UInt8}{k:Nat}{R:List Nat}(h:¬ dJ pg k):aH pg (k::R)=aH pg R:=if_neg h
theorem n_test(hnr:¬ C.ro bm){b8 b9 k:Nat}{R:List Nat}{sl:Value}{dt:Bl}(h:Mid C bm b8 b9 k R sl own w)(f:Nat→Value) :
 Gl (nX C c cs bm ob) true dT (MRecv (nX C c cs bm ob) (k::R) dt) own (nwP C.Ap C.L C.cp C.n c cs bm C.bc f k (opn (C.pg k)).1 (opn (C.pg k)).2.1 (opn (C.pg k)).2.2.1 (opn (C.pg k)).2.2.2 sl b8 b9) w:=by
 have d85:w.cell? ⟨b8,5,none⟩=some (.int .i64 (opn (C.pg k)).2.2.2):=by simp[World.cell?,h.h8,sv6]
 have d90:w.cell? ⟨b9,0,none⟩=some (.int .i64 (opn (C.pg k)).1):=by simp[World.cell?,h.h9,fr4]
 refine Gl.load (X:=nX C c cs bm ob) (a:=⟨b8,5,none⟩) (v:=.int .i64 (opn (C.pg k)).2.2.2) (nwP_at C.Ap C.L C.cp C.n c cs bm C.bc f k (opn (C.pg k)).1 (opn (C.pg k)).2.1 (opn (C.pg k)).2.2.1 (opn (C.pg k)).2.2.2 sl b8 b9) (by kernel_rfl) (fun w₁=>by kernel_rfl) (aF d85 (.inl h.o8)) (.inl h.o8) ?_;refine Gl.calms dT0 1 (nwP1_calm C.Ap C.L C.cp C.n c cs bm C.bc f k (opn (C.pg k)).1 (opn (C.pg k)).2.1 (opn (C.pg k)).2.2.1 (opn (C.pg k)).2.2.2 sl b8 b9) ?_;show Gl (nX C c cs bm ob) true dT _ _ (it Tryz.prog 1 (nwP1 C.Ap C.L C.cp C.n c cs bm C.bc f k (opn (C.pg k)).1 (opn (C.pg k)).2.1 (opn (C.pg k)).2.2.1 (opn (C.pg k)).2.2.2 sl b8 b9)) w;rw[nwP1_it];by_cases t1:¬ (opn (C.pg k)).2.2.2=2
 ·rw[show(!decide ((opn (C.pg k)).2.2.2=2))=true by simp[t1]];refine Gl.calms dT0 16 (nwT1_calm C.Ap C.L C.cp C.n c cs bm C.bc f k (opn (C.pg k)).1 (opn (C.pg k)).2.1 (opn (C.pg k)).2.2.1 (opn (C.pg k)).2.2.2 sl b8 b9) ?_;show Gl (nX C c cs bm ob) true dT _ _ (it Tryz.prog 16 (nwT C.Ap C.L C.cp C.n c cs bm C.bc f k (opn (C.pg k)).1 (opn (C.pg k)).2.1 (opn (C.pg k)).2.2.1 (opn (C.pg k)).2.2.2 sl b8 b9 true)) w;rw[nwT1_it];exact n_same h (best_not fun hc=>t1 hc.1) _
 have t1:=Classical.not_not.1 t1;rw[show(!decide ((opn (C.pg k)).2.2.2=2))=false by simp[t1]];refine Gl.calms dT0 2 (nwT0_calm C.Ap C.L C.cp C.n c cs bm C.bc f k (opn (C.pg k)).1 (opn (C.pg k)).2.1 (opn (C.pg k)).2.2.1 (opn (C.pg k)).2.2.2 sl b8 b9) ?_;refine Gl.load (X:=nX C c cs bm ob) (a:=⟨b9,0,none⟩) (v:=.int .i64 (opn (C.pg k)).1) (nwK0_at C.Ap C.L C.cp C.n c cs bm C.bc f k (opn (C.pg k)).1 (opn (C.pg k)).2.1 (opn (C.pg k)).2.2.1 (opn (C.pg k)).2.2.2 sl b8 b9) (by kernel_rfl) (fun w₁=>by kernel_rfl) (aF d90 (.inl h.o9)) (.inl h.o9) ?_;refine Gl.calms dT0 1 (nwK1_calm C.Ap C.L C.cp C.n c cs bm C.bc f k (opn (C.pg k)).1 (opn (C.pg k)).2.1 (opn (C.pg k)).2.2.1 (opn (C.pg k)).2.2.2 sl b8 b9) ?_;show Gl (nX C c cs bm ob) true dT _ _ (it Tryz.prog 1 (nwK1 C.Ap C.L C.cp C.n c cs bm C.bc f k (opn (C.pg k)).1 (opn (C.pg k)).2.1 (opn (C.pg k)).2.2.1 (opn (C.pg k)).2.2.2 sl b8 b9)) w;rw[nwK1_it];by_cases t2:(opn (C.pg k)).1=1
 ·rw[show(!decide ((opn (C.pg k)).1=1))=false by simp[t2]];refine Gl.calms dT0 13 (nwKf_calm C.Ap C.L C.cp C.n c cs bm C.bc f k (opn (C.pg k)).1 (opn (C.pg k)).2.1 (opn (C.pg k)).2.2.1 (opn (C.pg k)).2.2.2 sl b8 b9) ?_;show Gl (nX C c cs bm ob) true dT _ _ (it Tryz.prog 13 (nwKf C.Ap C.L C.cp C.n c cs bm C.bc f k (opn (C.pg k)).1 (opn (C.pg k)).2.1 (opn (C.pg k)).2.2.1 (opn (C.pg k)).2.2.2 sl b8 b9)) w;rw[nwKf_it];exact n_look hnr h ⟨t1,.inl t2⟩ _
 rw[show(!decide ((opn (C.pg k)).1=1))=true by simp[t2]];refine Gl.calms dT0 2 (nwKt_calm C.Ap C.L C.cp C.n c cs bm C.bc f k (opn (C.pg k)).1 (opn (C.pg k)).2.1 (opn (C.pg k)).2.2.1 (opn (C.pg k)).2.2.2 sl b8 b9) ?_;refine Gl.load (X:=nX C c cs bm ob) (a:=⟨b9,0,none⟩) (v:=.int .i64 (opn (C.pg k)).1) (nwH0_at C.Ap C.L C.cp C.n c cs bm C.bc f k (opn (C.pg k)).1 (opn (C.pg k)).2.1 (opn (C.pg k)).2.2.1 (opn (C.pg k)).2.2.2 sl b8 b9) (by kernel_rfl) (fun w₁=>by kernel_rfl) (aF d90 (.inl h.o9)) (.inl h.o9) ?_;refine Gl.calms dT0 1 (nwH1_calm C.Ap C.L C.cp C.n c cs bm C.bc f k (opn (C.pg k)).1 (opn (C.pg k)).2.1 (opn (C.pg k)).2.2.1 (opn (C.pg k)).2.2.2 sl b8 b9) ?_;show Gl (nX C c cs bm ob) true dT _ _ (it Tryz.prog 1 (nwH1 C.Ap C.L C.cp C.n c cs bm C.bc f k (opn (C.pg k)).1 (opn (C.pg k)).2.1 (opn (C.pg k)).2.2.1 (opn (C.pg k)).2.2.2 sl b8 b9)) w;rw[nwH1_it];by_cases t3:(opn (C.pg k)).1=2
 ·rw[show(!decide ((opn (C.pg k)).1=2))=false by simp[t3]];refine Gl.calms dT0 9 (nwHf_calm C.Ap C.L C.cp C.n c cs bm C.bc f k (opn (C.pg k)).1 (opn (C.pg k)).2.1 (opn (C.pg k)).2.2.1 (opn (C.pg k)).2.2.2 sl b8 b9) ?_;show Gl (nX C c cs bm ob) true dT _ _ (it Tryz.prog 9 (nwHf C.Ap C.L C.cp C.n c cs bm C.bc f k (opn (C.pg k)).1 (opn (C.pg k)).2.1 (opn (C.pg k)).2.2.1 (opn (C.pg k)).2.2.2 sl b8 b9)) w;rw[nwHf_it];exact n_look hnr h ⟨t1,.inr t3⟩ _
 rw[show(!decide ((opn (C.pg k)).1=2))=true by simp[t3]];refine Gl.calms dT0 8 (nwHt_calm C.Ap C.L C.cp C.n c cs bm C.bc f k (opn (C.pg k)).1 (opn (C.pg k)).2.1 (opn (C.pg k)).2.2.1 (opn (C.pg k)).2.2.2 sl b8 b9) ?_;show Gl (nX C c cs bm ob) true dT _ _ (it Tryz.prog 8 (nwHt C.Ap C.L C.cp C.n c cs bm C.bc f k (opn (C.pg k)).1 (opn (C.pg k)).2.1 (opn (C.pg k)).2.2.1 (opn (C.pg k)).2.2.2 sl b8 b9)) w;rw[nwHt_it];exact n_same h (best_not fun hc=>hc.2.elim t2 t3) _
theorem n_recv(hC:bK C)(hnr:¬ C.ro bm){R:List Nat}{dt:Bl}{g:Goroutine}(h:nRec C c cs bm R dt own g w):Gl (nX C c cs bm ob) true dT (MRecv (nX C c cs bm ob) R dt) own g w:=by
 unfold nRec at h;obtain⟨hr,ho,hcase⟩:=h;rcases hcase with⟨eR,hh,f,eg⟩|⟨k,R',A,m,cc,f,eR,hk,hh,eg⟩
 ·rw[eR,eg];refine rc_begin hC hr f ?_;refine Gl.calms dT0 5 (nwF_calm C.Ap C.L C.cp C.n c cs bm C.bc) ?_;show Gl (nX C c cs bm ob) true dT _ _ (it Tryz.prog 5 (G ((nwF C.Ap C.L C.cp C.n c cs bm).finish (.chan (some C.bc))) (c::cs))) w;rw[nwF_it];exact .stop fun w₁ h₁=>n_at (hr.rely h₁) ho (hh.rely ho h₁) _
 ·rw[eR,eg];generalize esl:Value.slice A m cc=sl;refine Gl.calms dT0 9 (nwV_calm C.Ap C.L C.cp C.n c cs bm C.bc f k (opn (C.pg k)).1 (opn (C.pg k)).2.1 (opn (C.pg k)).2.2.1 (opn (C.pg k)).2.2.2 sl) ?_;refine Gl.alloc (X:=nX C c cs bm ob) (ob:=.cells z6 85 (0,0)) (nwX_at C.Ap C.L C.cp C.n c cs bm C.bc f k (opn (C.pg k)).1 (opn (C.pg k)).2.1 (opn (C.pg k)).2.2.1 (opn (C.pg k)).2.2.2 sl) (by kernel_rfl) (fun w₂=>by kernel_rfl) ?_;intro w₂ h₂ _;have hr2:RoOk C {w₂ with heap:=w₂.heap.push (.cells z6 85 (0,0))}:=(hr.rely h₂).push;obtain⟨es,clk,q1,q2⟩:=hh.rely ho h₂;have lm:=(Array.getElem?_eq_some_iff.1 q1).1
  have hne:w₂.heap.size≠bm:=by omega
  have hm2:({w₂ with heap:=w₂.heap.push (.cells z6 85 (0,0))}:World).heap[bm]? = some (.map es clk):=by
   simp only[Array.getElem?_push];rw[if_neg (Ne.symm hne)];exact q1
  have hrow2:({w₂ with heap:=w₂.heap.push (.cells z6 85 (0,0))}:World).heap[w₂.heap.size]? = some (.cells z6 85 (0,0)):=by
   show(w₂.heap.push _)[w₂.heap.size]? = _;rw[Array.getElem?_push,if_pos rfl]
  have hnr8:¬ C.ro w₂.heap.size:=fun h=>absurd ((hr.rely h₂).lt _ h) (by omega);generalize ({w₂ with heap:=w₂.heap.push (.cells z6 85 (0,0))}:World)=wa at *;generalize w₂.heap.size=b8 at *;refine Gl.store (X:=nX C c cs bm ob) (ty:=85) (t:=85) (b:=b8) (old:=z6) (new:=sv6 k (opn (C.pg k)).1 (opn (C.pg k)).2.1 (opn (C.pg k)).2.2.1 (opn (C.pg k)).2.2.2 sl) (nwY_at C.Ap C.L C.cp C.n c cs bm C.bc f k (opn (C.pg k)).1 (opn (C.pg k)).2.1 (opn (C.pg k)).2.2.1 (opn (C.pg k)).2.2.2 sl b8) (by kernel_rfl) (x:=.tmp 8) (y:=.tmp 27) (by kernel_rfl) (by kernel_rfl) (by kernel_rfl) hrow2 (.inr rfl) (by kernel_rfl) rfl (by rw[←esl];kernel_rfl) ?_;intro w₃ h₃ _;have hb3:=(h₃.rel.keep b8 (.inl (.inr rfl)) (Array.getElem?_eq_some_iff.1 hrow2).1).trans hrow2;have hm3:=(h₃.rel.keep bm (.inl (.inl ho)) (Array.getElem?_eq_some_iff.1 hm2).1).trans hm2;have hr3:RoOk C (w₃.setRow b8 (sv6 k (opn (C.pg k)).1 (opn (C.pg k)).2.1 (opn (C.pg k)).2.2.1 (opn (C.pg k)).2.2.2 sl)):=(hr2.rely h₃).setRow hnr8;have hb4:=setRow_heap w₃ b8 z6 (sv6 k (opn (C.pg k)).1 (opn (C.pg k)).2.1 (opn (C.pg k)).2.2.1 (opn (C.pg k)).2.2.2 sl) _ _ hb3
  have hm4:(w₃.setRow b8 (sv6 k (opn (C.pg k)).1 (opn (C.pg k)).2.1 (opn (C.pg k)).2.2.1 (opn (C.pg k)).2.2.2 sl)).heap[bm]? = some (.map es clk):=by
   simp only[World.setRow,Array.getElem?_modify];rw[if_neg hne];exact hm3
  generalize (w₃.setRow b8 (sv6 k (opn (C.pg k)).1 (opn (C.pg k)).2.1 (opn (C.pg k)).2.2.1 (opn (C.pg k)).2.2.2 sl))=wb at *;refine Gl.calms dT0 4 (nwY_calm C.Ap C.L C.cp C.n c cs bm C.bc f k (opn (C.pg k)).1 (opn (C.pg k)).2.1 (opn (C.pg k)).2.2.1 (opn (C.pg k)).2.2.2 sl b8) ?_;refine Gl.loadMid (X:=nX C c cs bm ob) (ty:=53) (t:=85) (b:=b8) (off:=1) (x:=.tmp 28) (full:=sv6 k (opn (C.pg k)).1 (opn (C.pg k)).2.1 (opn (C.pg k)).2.2.1 (opn (C.pg k)).2.2.2 sl) (cs:=fr4 (opn (C.pg k)).1 (opn (C.pg k)).2.1 (opn (C.pg k)).2.2.1 sl) (fz:=(0,0)) (d:=(Tryz.prog.underlying 53).getD default) (nwZ_at C.Ap C.L C.cp C.n c cs bm C.bc f k (opn (C.pg k)).1 (opn (C.pg k)).2.1 (opn (C.pg k)).2.2.1 (opn (C.pg k)).2.2.2 sl b8) (by kernel_rfl) (by kernel_rfl) (by kernel_rfl) hb4 (fun j v hv=>?_) (.inl (.inr rfl)) (by kernel_rfl) (by kernel_rfl) (by kernel_rfl) ?_
  ·match j with
   |0=>exact hv
   |1=>exact hv
   |2=>exact hv
   |3=>exact hv
   |j+4=>simp[fr4]at hv
  refine Gl.alloc (X:=nX C c cs bm ob) (ob:=.cells z4 53 (0,0)) (nwM_at C.Ap C.L C.cp C.n c cs bm C.bc f k (opn (C.pg k)).1 (opn (C.pg k)).2.1 (opn (C.pg k)).2.2.1 (opn (C.pg k)).2.2.2 sl b8) (by kernel_rfl) (fun w₂=>by kernel_rfl) ?_;intro w₅ h₅ _;have hr5:RoOk C {w₅ with heap:=w₅.heap.push (.cells z4 53 (0,0))}:=(hr3.rely h₅).push;have hm5:=(h₅.rel.keep bm (.inl (.inl ho)) (Array.getElem?_eq_some_iff.1 hm4).1).trans hm4;have hb5:=(h₅.rel.keep b8 (.inl (.inr rfl)) (Array.getElem?_eq_some_iff.1 hb4).1).trans hb4;have l5:=(Array.getElem?_eq_some_iff.1 hm5).1;have l8:=(Array.getElem?_eq_some_iff.1 hb5).1
  have n9m:w₅.heap.size≠bm:=by omega
  have n98:w₅.heap.size≠b8:=by omega
  have hm6:({w₅ with heap:=w₅.heap.push (.cells z4 53 (0,0))}:World).heap[bm]? = some (.map es clk):=by
   simp only[Array.getElem?_push];rw[if_neg (Ne.symm n9m)];exact hm5
  have hb6:({w₅ with heap:=w₅.heap.push (.cells z4 53 (0,0))}:World).heap[b8]? = some (.cells (sv6 k (opn (C.pg k)).1 (opn (C.pg k)).2.1 (opn (C.pg k)).2.2.1 (opn (C.pg k)).2.2.2 sl) 85 (0,0)):=by
   simp only[Array.getElem?_push];rw[if_neg (Ne.symm n98)];exact hb5
  have hrow6:({w₅ with heap:=w₅.heap.push (.cells z4 53 (0,0))}:World).heap[w₅.heap.size]? = some (.cells z4 53 (0,0)):=by
   show(w₅.heap.push _)[w₅.heap.size]? = _;rw[Array.getElem?_push,if_pos rfl]
  have hnr9:¬ C.ro w₅.heap.size:=fun h=>absurd ((hr3.rely h₅).lt _ h) (by omega);generalize ({w₅ with heap:=w₅.heap.push (.cells z4 53 (0,0))}:World)=wc at *;generalize w₅.heap.size=b9 at *;refine Gl.store (X:=nX C c cs bm ob) (ty:=53) (t:=53) (b:=b9) (old:=z4) (new:=fr4 (opn (C.pg k)).1 (opn (C.pg k)).2.1 (opn (C.pg k)).2.2.1 sl) (nwN_at C.Ap C.L C.cp C.n c cs bm C.bc f k (opn (C.pg k)).1 (opn (C.pg k)).2.1 (opn (C.pg k)).2.2.1 (opn (C.pg k)).2.2.2 sl b8 b9) (by kernel_rfl) (x:=.tmp 9) (y:=.tmp 29) (by kernel_rfl) (by kernel_rfl) (by kernel_rfl) hrow6 (.inr rfl) (by kernel_rfl) rfl (by rw[←esl];kernel_rfl) ?_;intro w₇ h₇ _;have hm7:=(h₇.rel.keep bm (.inl (.inl (.inl ho))) (Array.getElem?_eq_some_iff.1 hm6).1).trans hm6;have hb7:=(h₇.rel.keep b8 (.inl (.inl (.inr rfl))) (Array.getElem?_eq_some_iff.1 hb6).1).trans hb6;have hrow7:=(h₇.rel.keep b9 (.inl (.inr rfl)) (Array.getElem?_eq_some_iff.1 hrow6).1).trans hrow6
  have keep:∀ x,b9≠x→(w₇.setRow b9 (fr4 (opn (C.pg k)).1 (opn (C.pg k)).2.1 (opn (C.pg k)).2.2.1 sl)).heap[x]? = w₇.heap[x]?:=fun x hx=>by
   simp only[World.setRow,Array.getElem?_modify];rw[if_neg hx]
  refine Gl.calms dT0 5 (nwN_calm C.Ap C.L C.cp C.n c cs bm C.bc f k (opn (C.pg k)).1 (opn (C.pg k)).2.1 (opn (C.pg k)).2.2.1 (opn (C.pg k)).2.2.2 sl b8 b9) ?_;exact n_test hnr (b8:=b8) (b9:=b9) ⟨(hr5.rely h₇).setRow hnr9,.inl (.inl ho),.inl (.inr rfl),.inr rfl,hne,n9m,Ne.symm n98,(keep b8 n98).trans hb7,setRow_heap w₇ b9 _ _ _ _ hrow7,es,clk,(keep bm n9m).trans hm7,q2⟩ f
theorem n_walks(hC:bK C)(hnr:¬ C.ro bm)(hb:bm≠C.bw)(hn:C.n<9223372036854775807)(hob:ob=.map #[] 0):Walks (nX C c cs bm ob) where
 loop:=w_loop hC
 load:=cl_loop hC
 sp:=fun i own g w hi h=>sp_walk hC hb hn i own g w hi h
 spn:=fun own g w h=>sp_last hC hb (fun w f hk=>⟨hk.ro,rfl,.inl ⟨rfl,⟨_,_,hk.at_.trans (congrArg some hob),rfl,MapKept.stamped_empty 0⟩,f,rfl⟩⟩) own g w h
 recv:=fun R dt own g w h _=>n_recv hC hnr h
end
end Ph
namespace Ph
open Conc Co Cl
theorem Args.push{w:World}{A:Option Addr}{L:Nat}{pv:Nat→Value}{pg:Nat→List UInt8}{ro0 Z:Bl}{o:Obj}(h:Args w A L pv pg ro0 Z):Args {w with heap:=w.heap.push o} A L pv pg ro0 Z:=by
 have hold:∀ x,ro0 x→(w.heap.push o)[x]? = w.heap[x]?:=fun x hx=>by
  have:=h.lt x hx;rw[Array.getElem?_push,if_neg (by omega)]
 refine⟨fun k hk=>?_,fun b hb=>by have:=h.lt b hb;simp;omega,h.nz,fun b hb=>by have:=h.zlt b hb;simp;omega⟩;obtain⟨b,off,h1,h2,h3,h4,h5⟩:=h.page k hk;refine⟨b,off,h1,h2,?_,h4.mono fun x hx=>hold x (h5 x hx),h5⟩;unfold World.cell? at h3⊢;rw[hold b h2];exact h3
def wMap(w:World):World:={w with heap:=w.heap.push (.map #[] 0)}
section
variable {Q:Value→World→Prop}{w:World}{A:Option Addr}{L cp n:Nat}{pv:Nat→Value}{pg:Nat→List UInt8}{Z Z':Bl}{c:Frame}{cs:List Frame}
theorem newest_loop(h:Args w A L pv pg (fun b=>b<w.heap.size∧¬ Z b) Z)(hn1:1≤n)(hn:n≤8)(hL:L≤4096)(hZ:∀ b,Z b→Z' b)(hZ2:Z' (w.heap.size+2))(hZ4:Z' (w.heap.size+4))(hZ5:Z' (w.heap.size+5))
 (hk:∀ es clk R w' f,(∀k,k<L→R.count k=1)→(∀k∈R,k<L)→w'.heap[w.heap.size]? = some (.map es clk)→bP es (aH pg R)→MapKept.Stamped es clk→(∀b,b<w.heap.size→¬ Z b→w'.heap[b]? = w.heap[b]?)→w.heap.size+6≤w'.heap.size→w'.os=w.os∧w'.output=w.output →
  Wins Tryz.prog Q Z' (nwW A L cp n c cs w.heap.size (w.heap.size+2) f) w'):Wins Tryz.prog Q Z (nw0 A L cp n c cs) w:=by
 refine az 20 (nw0_calm A L cp n c cs) ?_;rw[nw0_it,show decide ((n:Int)<1)=false from decide_eq_false (by omega)];refine az 3 (nwA_calm A L cp n c cs) ?_;show Wins Tryz.prog Q Z (it Tryz.prog 3 (nwA A L cp n c cs)) w;rw[nwA_it,show decide ((8:Int)<(n:Int))=false from decide_eq_false (by omega)];refine az 10 (nwB_calm A L cp n c cs) ?_;show Wins Tryz.prog Q Z (it Tryz.prog 10 (nwB A L cp n c cs)) w;rw[nwB_it,show decide ((4096:Int)<(L:Int))=false from decide_eq_false (by omega)];refine az 20 (nwC_calm A L cp n c cs) ?_
 have key:Wins Tryz.prog Q Z (fin (nwD A L cp n c cs) (.map (some w.heap.size))) (wMap w):=by
  refine az 8 (nwD_calm A L cp n c cs w.heap.size) ?_;rw[nwD_it]
  have hs:(wMap w).heap.size=w.heap.size+1:=by simp[wMap]
  have hat:(wMap w).heap[w.heap.size]? = some (.map #[] 0):=by
   show(w.heap.push _)[w.heap.size]? = _;rw[Array.getElem?_push,if_pos rfl]
  refine look_wins (RecA:=fun C=>nRec C c cs w.heap.size) (Fin:=fun C=>nFin C c cs w.heap.size) (Args.push h) hn1 hn hL hat (fun e=>by omega) (fun e=>by have:=h.zlt _ e;omega) hZ (by rw[hs];exact hZ2) (by rw[hs];exact hZ4) (by rw[hs];exact hZ5) (fun τ d n0 cl=>?_) (fun τ d n0 cl=>?_)
  ·refine n_walks (C:=cfgOf (wMap w) A L cp n pv pg (fun b=>b<w.heap.size∧¬ Z b) Z τ d n0 cl) (c:=c) (cs:=cs) (bm:=w.heap.size) (cfg_ok (Args.push h)) (fun e=>?_) ?_ ?_ rfl
   ·rcases e with e|e|e
    ·omega
    ·omega
    ·omega
   ·show w.heap.size≠(wMap w).heap.size+4;omega
   ·show n<9223372036854775807;omega
  ·intro R dt own g w' hf;obtain⟨hr,ho,⟨es,clk,v1,v2,v3⟩,f,eg⟩:=hf.fin;rw[eg];show Wins Tryz.prog Q Z' (nwW A L cp n c cs w.heap.size ((wMap w).heap.size+1) f) w';rw[hs];refine hk es clk R w' f hf.all hf.inR v1 v2 v3 (fun b hb hz=>?_) ?_ hf.live.still
   ·have e1:=hr.at_ b (.inr (.inr ⟨hb,hz⟩));have e2:(cfgOf (wMap w) A L cp n pv pg (fun b=>b<w.heap.size∧¬ Z b) Z τ d n0 cl).W0.heap[b]? = (wMap w).heap[b]?:=w6_old (by omega);rw[e1,e2];unfold wMap;rw[Array.getElem?_push,if_neg (by omega)]
   ·obtain⟨-,⟨st,sm,hw⟩,-⟩:=hf.live;have:=(Array.getElem?_eq_some_iff.1 hw).1;have e:(lookX (fun C=>nRec C c cs w.heap.size) (fun C=>nFin C c cs w.heap.size) (nwF A L cp n c cs w.heap.size) (c::cs) w.heap.size (.map #[] 0) (cfgOf (wMap w) A L cp n pv pg (fun b=>b<w.heap.size∧¬ Z b) Z τ d n0 cl)).Y.wg=(wMap w).heap.size+4:=rfl;omega
 show Wins Tryz.prog Q Z (nwD A L cp n c cs) w;refine dO (v:=.map (some w.heap.size)) (w':=wMap w) (nwD_at A L cp n c cs) (by kernel_rfl) (fun τ d=>nwD_run A L cp n c cs (Co.re w τ d)) ?_;intro gs sl t q τ d h0 hLv hP;exact key gs sl t q τ d h0 hLv (hP.mono (by simp[wMap]))
end
end Ph
namespace Ph
open Conc Co Cl
theorem look1_some{x:Int}:∀ {l:List Fnd} {o:Fnd},look1 x l=some o→o∈l∧o.lba=x
 |e::l,o,h=>by
  unfold look1 at h;by_cases e1:x=e.lba
  ·rw[if_pos e1]at h;cases h;exact⟨List.mem_cons_self,e1.symm⟩
  ·rw[if_neg e1]at h;obtain⟨a,b⟩:=look1_some h;exact⟨List.mem_cons_of_mem _ a,b⟩
theorem look1_none{x:Int}:∀ {l:List Fnd},look1 x l=none→∀ e∈l,e.lba≠x
 |f::l,h,e,he=>by
  unfold look1 at h;by_cases e1:x=f.lba
  ·rw[if_pos e1]at h;cases h
  ·rw[if_neg e1]at h;rcases List.mem_cons.1 he with rfl|he
   ·exact fun e2=>e1 e2.symm
   ·exact look1_none h e he
theorem mem_upd{x e:Fnd}:∀ {l:List Fnd},e∈upd x l→e=x∨(e∈l)
 |[],h=>.inl (by simpa[upd] using h)
 |f::l,h=>by
  unfold upd at h;by_cases e1:x.lba=f.lba
  ·rw[if_pos e1]at h;rcases List.mem_cons.1 h with rfl|h
   ·exact .inl rfl
   ·exact .inr (List.mem_cons_of_mem _ h)
  ·rw[if_neg e1]at h;rcases List.mem_cons.1 h with rfl|h
   ·exact .inr List.mem_cons_self
   ·exact(mem_upd h).imp id (List.mem_cons_of_mem _)
theorem jr(x:Fnd):∀ (l:List Fnd),x∈upd x l
 |[]=>by simp[upd]
 |f::l=>by
  unfold upd;by_cases e1:x.lba=f.lba
  ·rw[if_pos e1];exact List.mem_cons_self
  ·rw[if_neg e1];exact List.mem_cons_of_mem _ (jr x l)
theorem upd_keep{x e:Fnd}(hn:e.lba≠x.lba):∀ {l:List Fnd},e∈l→e∈upd x l
 |f::l,h=>by
  unfold upd;by_cases e1:x.lba=f.lba
  ·rw[if_pos e1];rcases List.mem_cons.1 h with rfl|h
   ·exact absurd e1.symm hn
   ·exact List.mem_cons_of_mem _ h
  ·rw[if_neg e1];rcases List.mem_cons.1 h with rfl|h
   ·exact List.mem_cons_self
   ·exact List.mem_cons_of_mem _ (upd_keep hn h)
theorem upd_keys(x:Fnd):∀ (l:List Fnd),(l.map (·.lba)).Nodup→((upd x l).map (·.lba)).Nodup∧∀ e∈upd x l,e.lba=x.lba→e=x
 |[],_=>by simp[upd]
 |f::l,h=>by
  simp only[List.map_cons,List.nodup_cons]at h;obtain⟨h1,h2⟩:=h;obtain⟨k1,k2⟩:=upd_keys x l h2;unfold upd;by_cases e1:x.lba=f.lba
  ·rw[if_pos e1]
   refine⟨by simp only[List.map_cons,List.nodup_cons];exact⟨by rw[e1];exact h1,h2⟩,fun e he hx=>?_⟩;rcases List.mem_cons.1 he with rfl|he
   ·rfl
   ·exact absurd (List.mem_map.2 ⟨e,he,hx.trans e1⟩) h1
  ·rw[if_neg e1];refine⟨?_,fun e he hx=>?_⟩
   ·simp only[List.map_cons,List.nodup_cons];refine⟨fun hm=>?_,k1⟩;obtain⟨e,he,hx⟩:=List.mem_map.1 hm;rcases mem_upd he with rfl|he2
    ·exact e1 hx
    ·exact h1 (List.mem_map.2 ⟨e,he2,hx⟩)
   ·rcases List.mem_cons.1 he with rfl|he
    ·exact absurd hx.symm e1
    ·exact k2 e he hx
theorem nod_uniq{e o:Fnd}:∀ {l:List Fnd},(l.map (·.lba)).Nodup→e∈l→o∈l→e.lba=o.lba→e=o
 |f::l,h,he,ho,hx=>by
  simp only[List.map_cons,List.nodup_cons]at h
  rcases List.mem_cons.1 he with e1|e1<;>rcases List.mem_cons.1 ho with o1|o1
  ·rw[e1,o1]
  ·exact absurd (List.mem_map.2 ⟨o,o1,by rw[←hx,e1]⟩) h.1
  ·exact absurd (List.mem_map.2 ⟨e,e1,by rw[hx,o1]⟩) h.1
  ·exact nod_uniq h.2 e1 o1 hx
theorem better_irr(x:Fnd):¬ dD x x:=fun h=>by rcases h with h|h<;>omega
theorem better_trans{x y z:Fnd}(h:dD x y)(k:dD y z):dD x z:=by
 unfold dD at *;omega
structure BestI(pg:Nat→List UInt8)(R:List Nat)(l:List Fnd):Prop where
 nod:(l.map (·.lba)).Nodup
 is_:∀ e∈l,∃k∈R,dJ pg k∧e=fndOf pg k
 max:∀ e∈l,∀j∈R,dJ pg j→(fndOf pg j).lba=e.lba→¬ dD (fndOf pg j) e
 has:∀ k∈R,dJ pg k→∃ e∈l,e.lba=(fndOf pg k).lba
theorem best_upd{pg:Nat→List UInt8}{k:Nat}{R:List Nat}{l:List Fnd}(h:BestI pg R l)(hc:dJ pg k)(hb:∀ o∈l,o.lba=(fndOf pg k).lba→dD (fndOf pg k) o):BestI pg (k::R) (upd (fndOf pg k) l):=by
 obtain⟨u1,u2⟩:=upd_keys (fndOf pg k) l h.nod;refine⟨u1,fun e he=>?_,fun e he j hj hcj hx=>?_,fun j hj hcj=>?_⟩
 ·rcases mem_upd he with rfl|he
  ·exact⟨k,List.mem_cons_self,hc,rfl⟩
  ·obtain⟨j,h1,h2,h3⟩:=h.is_ e he;exact⟨j,List.mem_cons_of_mem _ h1,h2,h3⟩
 ·by_cases ex:e.lba=(fndOf pg k).lba
  ·rw[u2 e he ex];rcases List.mem_cons.1 hj with rfl|hj
   ·exact better_irr _
   ·intro hbt;obtain⟨o,ho,hox⟩:=h.has j hj hcj;exact h.max o ho j hj hcj hox.symm (better_trans hbt (hb o ho (by rw[hox,hx,ex])))
  ·rcases mem_upd he with rfl|he2
   ·exact absurd rfl ex
   ·rcases List.mem_cons.1 hj with rfl|hj
    ·exact absurd hx.symm ex
    ·exact h.max e he2 j hj hcj hx
 ·rcases List.mem_cons.1 hj with rfl|hj
  ·exact⟨_,jr _ l,rfl⟩
  ·obtain⟨e,he,hx⟩:=h.has j hj hcj;by_cases ex:e.lba=(fndOf pg k).lba
   ·exact⟨_,jr _ l,by rw[←hx,ex]⟩
   ·exact⟨e,upd_keep ex he,hx⟩
theorem best_inv(pg:Nat→List UInt8):∀ R,BestI pg R (aH pg R)
 |[]=>⟨by simp[aH],fun e he=>by simp[aH]at he,fun e he=>by simp[aH]at he,fun k hk=>by cases hk⟩
 |k::R=>by
  have ih:=best_inv pg R;show BestI pg (k::R) (stepF pg k (aH pg R));unfold stepF;by_cases hc:dJ pg k
  ·rw[if_pos hc]
   cases hl:look1 (fndOf pg k).lba (aH pg R) with
   |none=>exact best_upd ih hc fun o ho hx=>absurd hx (look1_none hl o ho)
   |some o =>
    obtain⟨h1,h2⟩:=look1_some hl;by_cases hb:dD (fndOf pg k) o
    ·simp only[if_pos hb]
     exact best_upd ih hc fun o' ho' hx=>by rw[nod_uniq ih.nod ho' h1 (by rw[hx,h2])];exact hb
    ·simp only[if_neg hb];refine⟨ih.nod,fun e he=>?_,fun e he j hj hcj hx=>?_,fun j hj hcj=>?_⟩
     ·obtain⟨j,k1,k2,k3⟩:=ih.is_ e he;exact⟨j,List.mem_cons_of_mem _ k1,k2,k3⟩
     ·rcases List.mem_cons.1 hj with rfl|hj
      ·rw[nod_uniq ih.nod he h1 (by rw[←hx,h2])];exact hb
      ·exact ih.max e he j hj hcj hx
     ·rcases List.mem_cons.1 hj with rfl|hj
      ·exact⟨o,h1,h2⟩
      ·exact ih.has j hj hcj
  ·rw[if_neg hc];refine⟨ih.nod,fun e he=>?_,fun e he j hj hcj hx=>?_,fun j hj hcj=>?_⟩
   ·obtain⟨j,k1,k2,k3⟩:=ih.is_ e he;exact⟨j,List.mem_cons_of_mem _ k1,k2,k3⟩
   ·rcases List.mem_cons.1 hj with rfl|hj
    ·exact absurd hcj hc
    ·exact ih.max e he j hj hcj hx
   ·rcases List.mem_cons.1 hj with rfl|hj
    ·exact absurd hcj hc
    ·exact ih.has j hj hcj
end Ph
end
end Go.Proofs.YtlaipigilikmbaaGreatDoor
namespace Go.Proofs
open Go.RowKit Go.Maps Go.Sort Go.Shelf
def Tryz.keysA_ren:Go.Shelf.Ren:=⟨fun|7=>32|10=>56|n=>n,fun|23=>81|26=>3|3=>60|28=>89|0=>0|27=>88|33=>122|4=>4|n=>n,fun|n=>n⟩
theorem Tryz.keysA:Go.Proofs.SlLaysZI.n7 Tryz.prog Tryz.keysA_ren:={
 mixed:=by kernel_rfl
 f7:=⟨Tryz.f32.name,by decide,Tryz.func32.trans (congrArg some (by kernel_rfl))⟩
 f10:=⟨Tryz.f56.name,by decide,Tryz.func56.trans (congrArg some (by kernel_rfl))⟩
 t0:=Tryz.underlying0
 a0:=Tryz.isAgg0
 z0:=Tryz.sizeOf0
 v0:=Tryz.zeroValue0
 t4:=Tryz.underlying4
 a4:=Tryz.isAgg4
 z4:=Tryz.sizeOf4
 v4:=Tryz.zeroValue4
 t23:=Tryz.underlying81
 a23:=Tryz.isAgg81
 z23:=Tryz.sizeOf81
 v23:=Tryz.zeroValue81
 t26:=Tryz.underlying3
 a26:=Tryz.isAgg3
 z26:=Tryz.sizeOf3
 v26:=Tryz.zeroValue3
 t27:=Tryz.underlying88
 a27:=Tryz.isAgg88
 z27:=Tryz.sizeOf88
 v27:=Tryz.zeroValue88
 t28:=Tryz.underlying89
 a28:=Tryz.isAgg89
 z28:=Tryz.sizeOf89
 v28:=Tryz.zeroValue89
 t33:=Tryz.underlying122
 a33:=Tryz.isAgg122
 z33:=Tryz.sizeOf122
 v33:=Tryz.zeroValue122}
def Tryz.sortedA_ren:Go.Shelf.Ren:=⟨fun|6=>31|8=>54|9=>55|11=>89|13=>91|12=>90|23=>113|24=>114|14=>104|15=>105|16=>106|17=>107|18=>108|19=>109|20=>110|21=>111|22=>112|25=>120|26=>121|27=>122|28=>123|29=>124|30=>125|31=>128|n=>n,fun|26=>3|28=>89|24=>23|0=>0|3=>3|37=>67|48=>65|50=>69|4=>4|40=>183|39=>182|45=>188|5=>5|9=>9|51=>192|55=>195|57=>199|58=>200|33=>122|n=>n,fun|n=>n⟩
theorem Tryz.sortedA:Go.Proofs.SlLaysZI.n6 Tryz.prog Tryz.sortedA_ren:={
 mixed:=by kernel_rfl
 f6:=⟨Tryz.f31.name,by decide,Tryz.func31.trans (congrArg some (by kernel_rfl))⟩
 f8:=⟨Tryz.f54.name,by decide,Tryz.func54.trans (congrArg some (by kernel_rfl))⟩
 f11:=⟨Tryz.f89.name,by decide,Tryz.func89.trans (congrArg some (by kernel_rfl))⟩
 t0:=Tryz.underlying0
 a0:=Tryz.isAgg0
 z0:=Tryz.sizeOf0
 v0:=Tryz.zeroValue0
 t24:=Tryz.underlying23
 a24:=Tryz.isAgg23
 z24:=Tryz.sizeOf23
 v24:=Tryz.zeroValue23
 t26:=Tryz.underlying3
 a26:=Tryz.isAgg3
 z26:=Tryz.sizeOf3
 v26:=Tryz.zeroValue3
 t28:=Tryz.underlying89
 a28:=Tryz.isAgg89
 z28:=Tryz.sizeOf89
 v28:=Tryz.zeroValue89
 i26:=by kernel_rfl}
def Tryz.sortA_ren:Go.Shelf.Ren:=⟨fun|5=>55|8=>91|7=>90|19=>113|20=>114|10=>104|11=>105|12=>106|13=>107|14=>108|15=>109|16=>110|17=>111|18=>112|30=>120|31=>121|32=>122|33=>123|34=>124|35=>125|40=>128|n=>n,fun|23=>23|25=>3|3=>3|32=>67|22=>23|0=>0|44=>65|46=>69|4=>4|36=>183|35=>182|41=>188|5=>5|9=>9|53=>192|57=>195|63=>199|64=>200|n=>n,fun|n=>n⟩
theorem Tryz.sortA:Go.Proofs.SlLaysM.n5 Tryz.prog Tryz.sortA_ren:={
 mixed:=by kernel_rfl
 f5:=⟨Tryz.f55.name,by decide,Tryz.func55.trans (congrArg some (by kernel_rfl))⟩
 f7:=⟨Tryz.f90.name,by decide,Tryz.func90.trans (congrArg some (by kernel_rfl))⟩
 f8:=Tryz.func91.trans (congrArg some (by kernel_rfl))
 f10:=⟨Tryz.f104.name,by decide,Tryz.func104.trans (congrArg some (by kernel_rfl))⟩
 f11:=⟨Tryz.f105.name,by decide,Tryz.func105.trans (congrArg some (by kernel_rfl))⟩
 f12:=⟨Tryz.f106.name,by decide,Tryz.func106.trans (congrArg some (by kernel_rfl))⟩
 f13:=⟨Tryz.f107.name,by decide,Tryz.func107.trans (congrArg some (by kernel_rfl))⟩
 f14:=⟨Tryz.f108.name,by decide,Tryz.func108.trans (congrArg some (by kernel_rfl))⟩
 f15:=⟨Tryz.f109.name,by decide,Tryz.func109.trans (congrArg some (by kernel_rfl))⟩
 f16:=⟨Tryz.f110.name,by decide,Tryz.func110.trans (congrArg some (by kernel_rfl))⟩
 f17:=⟨Tryz.f111.name,by decide,Tryz.func111.trans (congrArg some (by kernel_rfl))⟩
 f18:=⟨Tryz.f112.name,by decide,Tryz.func112.trans (congrArg some (by kernel_rfl))⟩
 f19:=Tryz.func113.trans (congrArg some (by kernel_rfl))
 f20:=Tryz.func114.trans (congrArg some (by kernel_rfl))
 f30:=⟨Tryz.f120.name,by decide,Tryz.func120.trans (congrArg some (by kernel_rfl))⟩
 f31:=Tryz.func121.trans (congrArg some (by kernel_rfl))
 f32:=Tryz.func122.trans (congrArg some (by kernel_rfl))
 f33:=⟨Tryz.f123.name,by decide,Tryz.func123.trans (congrArg some (by kernel_rfl))⟩
 f34:=⟨Tryz.f124.name,by decide,Tryz.func124.trans (congrArg some (by kernel_rfl))⟩
 f35:=⟨Tryz.f125.name,by decide,Tryz.func125.trans (congrArg some (by kernel_rfl))⟩
 f40:=⟨Tryz.f128.name,by decide,Tryz.func128.trans (congrArg some (by kernel_rfl))⟩
 t0:=Tryz.underlying0
 a0:=Tryz.isAgg0
 z0:=Tryz.sizeOf0
 v0:=Tryz.zeroValue0
 t3:=Tryz.underlying3
 a3:=Tryz.isAgg3
 z3:=Tryz.sizeOf3
 v3:=Tryz.zeroValue3
 t4:=Tryz.underlying4
 a4:=Tryz.isAgg4
 z4:=Tryz.sizeOf4
 v4:=Tryz.zeroValue4
 t5:=Tryz.underlying5
 a5:=Tryz.isAgg5
 z5:=Tryz.sizeOf5
 v5:=Tryz.zeroValue5
 t9:=Tryz.underlying9
 a9:=Tryz.isAgg9
 z9:=Tryz.sizeOf9
 v9:=Tryz.zeroValue9
 t22:=Tryz.underlying23
 a22:=Tryz.isAgg23
 z22:=Tryz.sizeOf23
 v22:=Tryz.zeroValue23
 t23:=Tryz.underlying23
 a23:=Tryz.isAgg23
 z23:=Tryz.sizeOf23
 v23:=Tryz.zeroValue23
 t25:=Tryz.underlying3
 a25:=Tryz.isAgg3
 z25:=Tryz.sizeOf3
 v25:=Tryz.zeroValue3
 t32:=Tryz.underlying67
 a32:=Tryz.isAgg67
 z32:=Tryz.sizeOf67
 v32:=Tryz.zeroValue67
 t35:=Tryz.underlying182
 a35:=Tryz.isAgg182
 z35:=Tryz.sizeOf182
 v35:=Tryz.zeroValue182
 t36:=Tryz.underlying183
 a36:=Tryz.isAgg183
 z36:=Tryz.sizeOf183
 v36:=Tryz.zeroValue183
 t41:=Tryz.underlying188
 a41:=Tryz.isAgg188
 z41:=Tryz.sizeOf188
 v41:=Tryz.zeroValue188
 t44:=Tryz.underlying65
 a44:=Tryz.isAgg65
 z44:=Tryz.sizeOf65
 v44:=Tryz.zeroValue65
 t46:=Tryz.underlying69
 a46:=Tryz.isAgg69
 z46:=Tryz.sizeOf69
 v46:=Tryz.zeroValue69
 t53:=Tryz.underlying192
 a53:=Tryz.isAgg192
 z53:=Tryz.sizeOf192
 v53:=Tryz.zeroValue192
 t57:=Tryz.underlying195
 a57:=Tryz.isAgg195
 z57:=Tryz.sizeOf195
 v57:=Tryz.zeroValue195
 t63:=Tryz.underlying199
 a63:=Tryz.isAgg199
 z63:=Tryz.sizeOf199
 v63:=Tryz.zeroValue199
 t64:=Tryz.underlying200
 a64:=Tryz.isAgg200
 z64:=Tryz.sizeOf200
 v64:=Tryz.zeroValue200}
theorem Tryz.sortsA(m:Nat):AnyZI.SortsIn Tryz.prog Tryz.sortedA_ren Fence.wide m :=
 ⟨fun blk off cap ss W hH hblk hsz=>callsIn_wide.2 (AnyM.slices_Sort_int Tryz.sortA blk off cap ss W hH hblk hsz),
  fun p cap W=>callsIn_wide.2 (AnyM.slices_Sort_int_none Tryz.sortA p cap W)⟩
end Go.Proofs
namespace Go.Proofs.YtlaipigilikmbaaGreatDoor
noncomputable section
namespace Ph
open Conc Co Cl
open Go.WideElems (Fit rd rg rd_mk rg_of)
theorem rd_ent{x:Fnd}(h0:-9223372036854775808≤x.lba)(h1:x.lba<9223372036854775808)(born:Nat):rd Tryz.prog 3 anyR ⟨.int .i64 x.lba,fv x,born⟩=some (.int .i64 x.lba,.nil):=by
 have hw:(Lit.int .i64 x.lba).wf=true:=by
  simp only[Lit.wf,Bool.and_eq_true,decide_eq_true_eq];exact⟨h0,by have:IntKind.i64.max=9223372036854775807:=rfl;omega⟩
 exact rd_mk (Go.Maps.keyOf_int_mk (by kernel_rfl) hw) (yv:=(.nil,[])) rfl
theorem rg_list:∀ (es:List MapEntry) (l:List Fnd),es.map (fun e=>(e.key,e.val))=l.map (fun x=>(Value.int .i64 x.lba,fv x))→(∀x∈l,-9223372036854775808≤x.lba∧x.lba<9223372036854775808)→(∀e∈es,∃y,rd Tryz.prog 3 anyR e=some y)∧(es.map (rg Tryz.prog 3 anyR)).map (fun p=>Go.intOf p.1)=l.map (·.lba)
 |[],[],_,_=>⟨fun e he=>(by cases he),rfl⟩
 |[],_::_,h,_=>by cases h
 |_::_,[],h,_=>by cases h
 |e::es,f::l,h,hr=>by
  simp only[List.map_cons,List.cons.injEq,Prod.mk.injEq]at h;obtain⟨⟨h1,h2⟩,h3⟩:=h;obtain⟨k1,k2⟩:=rg_list es l h3 fun x hx=>hr x (List.mem_cons_of_mem _ hx);have hf:=hr f List.mem_cons_self
  have he:rd Tryz.prog 3 anyR e=some (.int .i64 f.lba,.nil):=by
   obtain⟨key,val,born⟩:=e
   dsimp only at h1 h2
   subst h1;subst h2;exact rd_ent hf.1 hf.2 born
  refine⟨fun e' he'=>?_,?_⟩
  ·rcases List.mem_cons.1 he' with e1|e1
   ·rw[e1];exact⟨_,he⟩
   ·exact k1 e' e1
  ·simp only[List.map_cons,rg_of he,Go.intOf,List.cons.injEq,true_and];exact k2
theorem owns_of{w:World}{bm:Nat}{es:Array MapEntry}{clk:Nat}{l:List Fnd}(hb:w.heap[bm]? = some (.map es clk))(he:bP es l)(hs:MapKept.Stamped es clk)(hsz:l.length≤4096)(hr:∀ x∈l,-9223372036854775808≤x.lba∧x.lba<9223372036854775808) :
 ∃D:DataW Nat,w.ownsMap Tryz.prog 3 anyR bm 4096 D∧(intKeys D).Perm (l.map (·.lba))∧Maps.size D≤4096:=by
 obtain⟨k1,k2⟩:=rg_list es.toList l he hr
 have hlen:es.size=l.length:=by
  have:=congrArg List.length he;simpa using this
 refine⟨_,⟨es,clk,hb,⟨by rw[hlen];unfold maxLen;omega,hs,k1⟩,by omega,rfl⟩,?_,?_⟩
 ·show(((es.toList.map (rg Tryz.prog 3 anyR)).foldr DataW.insert []).map fun p=>Go.intOf p.1).Perm _;rw[←k2];exact(Go.WideShapes.sorted_perm _).map _
 ·show((es.toList.map (rg Tryz.prog 3 anyR)).foldr DataW.insert []).length≤4096;rw[(Go.WideShapes.sorted_perm _).length_eq];simp;omega
end Ph
end
end Go.Proofs.YtlaipigilikmbaaGreatDoor
namespace Go.Proofs
open Go.RowKit Go.Maps Go.Sort Go.Shelf Go.Proofs.YtlaipigilikmbaaGreatDoor.Ph
theorem Tryz.sorted_any{w:World}{bm Bm:Nat}{es:Array MapEntry}{clk:Nat}{l:List Fnd}(hb:w.heap[bm]? = some (.map es clk))(he:bP es l)(hs:MapKept.Stamped es clk)(hsz:l.length≤4096)(hr:∀ x∈l,-9223372036854775808≤x.lba∧x.lba<9223372036854775808)
 (hBm:w.cell? ⟨Bm,0,none⟩=some (.map (some bm))) :
 Calls Tryz.prog 31 #[.func (.func 56) #[] #[.pointer (some ⟨Bm,0,none⟩)]] w fun e w'=>∃ (v:Value) (ss:List Int),e=.returned v∧ss.Perm (l.map (·.lba)) ∧
  w'.ownsRow w.heap.size 3 1 v ss.length ((ss.mergeSort (fun x y=>decide (x≤y))).map encZ)∧(v=.slice none 0 0↔ss=[])∧Below w.heap.size w w':=by
 obtain⟨D,hown,hperm,hsz2⟩:=owns_of hb he hs hsz hr
 have hBl:Bm<w.heap.size:=by
  unfold World.cell? at hBm
  cases hh:w.heap[Bm]? with
  |none=>simp[hh]at hBm
  |some o=>exact(Array.getElem?_eq_some_iff.1 hh).1
 have hseq:SeqGives Fence.wide 2 Tryz.prog 56 #[.pointer (some ⟨Bm,0,none⟩)] encZ (fun ss=>ss.Perm (intKeys D)) (Maps.size D) w:=by
  exact AnyZI.keys_gives (ρ:=Tryz.keysA_ren) {Tryz.keysA with} Fence.wide 2 trivial rfl (by omega) Bm bm 4096 D w hBl hBm hown
 have cS:=AnyZI.sorted_in Tryz.sortedA Fence.wide 5 trivial trivial trivial trivial rfl (by omega) (Tryz.sortsA _) (enters_of Tryz.func55 (by kernel_rfl) rfl) 56 #[.pointer (some ⟨Bm,0,none⟩)] trivial (enters_of Tryz.func56 (by kernel_rfl) rfl) _ _ (by unfold maxLen;omega) (by omega) _ hseq;refine(callsIn_wide (n:=5)).1 ?_
 change CallsIn _ _ Tryz.prog 31 _ _ _ at cS
 refine cS.mono ?_;rintro e w' ⟨v,ss,rfl,hS,hrow,hnil,hbl⟩;exact⟨v,ss,rfl,hS.trans hperm,hrow,hnil,hbl⟩
end Go.Proofs
namespace Go.Proofs.YtlaipigilikmbaaGreatDoor
noncomputable section
namespace Ph
open Conc Co Cl
def codeAt(g:Goroutine)(i:Nat):Code:=match g.frame.todo[i]? with|some (.code c)=>c|_=>.skip
def neT(bm:Nat)(out sl:Value)(m i:Int)(u:Nat→Value):Array Value:=#[u 0,u 1,u 2,u 3,u 4,u 5,u 6,.map (some bm),u 8,u 9,u 10,u 11,out,u 13,u 14,u 15,u 16,u 17,u 18,u 19,u 20,u 21,u 22,u 23,u 24,u 25,u 26,u 27,u 28,u 29,u 30,u 31,u 32,u 33,u 34,u 35,u 36,u 37,u 38,u 39,u 40,u 41,u 42,u 43,u 44,u 45,u 46,u 47,u 48,u 49,u 50,u 51,u 52,u 53,u 54,u 55,u 56,u 57,u 58,u 59,u 60,u 61,u 62,u 63,u 64,u 65,u 66,u 67,u 68,u 69,u 70,u 71,u 72,u 73,u 74,u 75,u 76,u 77,u 78,u 79,u 80,u 81,u 82,u 83,u 84,u 85,u 86,sl,.int .i64 m,.int .i64 i,u 90,u 91,u 92,u 93,u 94,u 95,u 96,u 97,u 98,u 99,u 100]
def keysF(B:Nat):Value:=.func (.func 56) #[] #[.pointer (some ⟨B,0,none⟩)]
section
variable (A:Option Addr)(L cp n:Nat)(c:Frame)(cs:List Frame)(bm bc:Nat)(f:Nat→Value)
theorem neW_calm:Calms Tryz.prog true 16 (nwW A L cp n c cs bm bc f):=by
 iterate 16 refine⟨by kernel_rfl,fun _=>by kernel_rfl,?_⟩
 trivial
def neX:Goroutine:=it Tryz.prog 16 (nwW A L cp n c cs bm bc f)
theorem neX_at:AtO (neX A L cp n c cs bm bc f) (oOf (neX A L cp n c cs bm bc f)):=⟨by unfold AtOp;kernel_rfl,by kernel_rfl,by kernel_rfl,by rw[show(Goroutine.frame (neX A L cp n c cs bm bc f)).kind=.normal by kernel_rfl];simp⟩
variable (B:Nat)
theorem neY_calm:Calms Tryz.prog true 10 (fin (neX A L cp n c cs bm bc f) (.pointer (some ⟨B,0,none⟩))):=by
 iterate 10 refine⟨by kernel_rfl,fun _=>by kernel_rfl,?_⟩
 trivial
def neZ:Frame:=((it Tryz.prog 10 (fin (neX A L cp n c cs bm bc f) (.pointer (some ⟨B,0,none⟩)))).callers).headD default
theorem neY_it:it Tryz.prog 10 (fin (neX A L cp n c cs bm bc f) (.pointer (some ⟨B,0,none⟩)))=G (Frame.enter Tryz.prog 31 #[keysF B] .normal) (neZ A L cp n c cs bm bc f B::c::cs):=by kernel_rfl
variable (S:Option Addr)(m q:Nat)
theorem neZ_calm:Calms Tryz.prog true 3 (G ((neZ A L cp n c cs bm bc f B).finish (.slice S m q)) (c::cs)):=by
 iterate 3 refine⟨by kernel_rfl,fun _=>by kernel_rfl,?_⟩
 trivial
def neZ4:Goroutine:=it Tryz.prog 3 (G ((neZ A L cp n c cs bm bc f B).finish (.slice S m q)) (c::cs))
def cNL:Code:=codeAt (neZ4 none 0 0 0 (default:Frame) [] 0 0 (fun _=>undef) 0 none 0 0) 0
def cNR:Code:=codeAt (neZ4 none 0 0 0 (default:Frame) [] 0 0 (fun _=>undef) 0 none 0 0) 1
theorem neZ_it:it Tryz.prog 3 (G ((neZ A L cp n c cs bm bc f B).finish (.slice S m q)) (c::cs))=G (Co.fr 14 (neT bm (.slice none 0 0) (.slice S m q) m 0 (fun i=>(neZ4 A L cp n c cs bm bc f B S m q).frame.tmps.getD i undef)) [.code cNL,.code cNR] .run) (c::cs):=by kernel_rfl
end
end Ph
namespace Cl
open Conc Co
section
variable {P:Program}{Q:Value→World→Prop}{Z ro:Nat→Prop}
theorem mi{own:Nat→Prop}{n:Nat}{e:Event}(h:EvO ro own e)(ho:∀ x,own x→¬ Z x∧x<n)(hr:∀ x,ro x→¬ Z x∧x<n):EvL (ShZ Z) n e:=by
 refine evL_of (E:=⟨fun x=>¬ Z x,fun _=>True,fun _=>True,fun _=>True⟩) ?_ (fun x hz hn=>hn hz);rcases h with⟨a,h1,h2,h3⟩|⟨x,h1,h2,h3⟩|h|h
 ·refine .inl ⟨a,h1,?_⟩;rcases h3 with h3|h3
  ·exact ho _ h3
  ·exact hr _ h3.1
 ·exact .inr (.inl ⟨x,h1,(ho x h3).1,(ho x h3).2,.inl h2⟩)
 ·exact .inr (.inr (.inl h))
 ·exact .inr (.inr (.inr (.inl h)))
structure Kept0(own own':Nat→Prop)(w w':World):Prop where
 size:w.heap.size≤w'.heap.size
 keep:∀ x,x<w.heap.size→¬ own x→w'.heap[x]? = w.heap[x]?
 grow:∀ x,own' x→own x∨w.heap.size≤x
 lt:∀ x,own' x→x<w'.heap.size
 ole:∀ x,own x→own' x
 still:w'.os=w.os∧w'.output=w.output
theorem wins_ends{Stop:(Nat→Prop)→Goroutine→World→Prop}:∀ (ρ:Rk) {own:Nat→Prop} {g:Goroutine} {w:World},Co.Ends P true ro Stop ρ own g w→(∀x,own x→¬ Z x∧x<w.heap.size)→(∀x,ro x→¬ Z x∧x<w.heap.size)→(∀x,Z x→x<w.heap.size) →
 (∀own' g' w',Stop own' g' w'→Kept0 own own' w w'→Wins P Q Z g' w')→Wins P Q Z g w:=by
 intro ρ
 induction ρ with
 |leaf =>
  intro own g w h ho hr hz hk;exact hk own g w (h w (.refl w)) ⟨Nat.le_refl _,fun _ _ _=>rfl,fun x h=>.inl h,fun x h=>(ho x h).2,fun x h=>h,rfl,rfl⟩
 |node t ih =>
  intro own g w h ho hr hz hk;rcases h with h|⟨hs,h⟩
  ·exact hk own g w (h w (.refl w)) ⟨Nat.le_refl _,fun _ _ _=>rfl,fun x h=>.inl h,fun x h=>(ho x h).2,fun x h=>h,rfl,rfl⟩
  ·refine dB hs fun τ d=>?_;obtain⟨own',g',w',es,k1,k2,k3⟩:=h (re w τ d) ⟨Nat.le_refl _,fun _ _ _=>rfl⟩;have hsz:w.heap.size≤w'.heap.size:=k2.size
   have ho':∀ x,own' x→¬ Z x∧x<w'.heap.size:=fun x hx=>by
    refine⟨?_,k2.lt (fun y hy=>(ho y hy).2) x hx⟩;rcases k2.grow x hx with h|h
    ·exact(ho x h).1
    ·intro hzx;have h1:=hz x hzx;have h2:w.heap.size≤x:=h;omega
   have hr':∀ x,ro x→¬ Z x∧x<w'.heap.size:=fun x hx=>⟨(hr x hx).1,Nat.lt_of_lt_of_le (hr x hx).2 hsz⟩;refine⟨g',w',w'.drawn,es,?_,hsz,fun e he=>mi (k2.ev e he) ho' hr',?_⟩
   ·rw[k1]
    have:re w' τ w'.drawn=w':=by
     have e:=k2.tape;simp only[jW]at e;rw[←e,bQ]
    rw[this]
   ·refine ih (re w τ d) k3 ho' hr' (fun x hx=>Nat.lt_of_lt_of_le (hz x hx) hsz) fun own2 g2 w2 hst hk2=>hk own2 g2 w2 hst ?_;refine⟨Nat.le_trans hsz hk2.size,fun x hx hn=>?_,fun x hx=>?_,hk2.lt,fun x hx=>hk2.ole x (k2.le x hx),hk2.still.1.trans k2.os,hk2.still.2.trans k2.output⟩
    ·have h1:w'.heap[x]? = w.heap[x]?:=k2.keep x hx hn;rw[←h1];refine hk2.keep x (Nat.lt_of_lt_of_le hx hsz) fun ho2=>?_;rcases k2.grow x ho2 with h|h
     ·exact hn h
     ·have h2:w.heap.size≤x:=h;omega
    ·rcases hk2.grow x hx with h|h
     ·exact k2.grow x h
     ·exact .inr (Nat.le_trans hsz h)
end
end Cl
namespace Cl
open Conc Co
structure Side(E:Env)(K:Nat→Prop)(W:World)(Z:Nat→Prop)(f:Fm)(w:World):Prop where
 old:∀ x,K x→w.heap[x]? = W.heap[x]?
 low:∀ x,K x→x<w.heap.size
 own:∀ x,ownOf E f x→¬ K x∧¬ Z x
 zed:∀ x,Z x→x<w.heap.size
 ro:∀ x,E.ro x→x<w.heap.size∧¬ Z x
 size:W.heap.size≤w.heap.size
 still:w.os=W.os∧w.output=W.output
section
variable {P:Program}{Q:Value→World→Prop}{E:Env}{K Z:Nat→Prop}{W:World}{cs:List Frame}{fn:FuncId}{t:Array Value}{todo k:List Item}{m:FrameMode}{w0:World}
def WinsR(P:Program)(Q:Value→World→Prop)(E:Env)(K:Nat→Prop)(W:World)(Z:Nat→Prop)(cs:List Frame)(fn:FuncId)(t:Array Value)(todo:List Item)(m:FrameMode)(w0:World):Prop :=
 ∀f t' w,AR E.ok f t t'→WR E f (Co.re w0 w.tape w.drawn) w→Side E K W Z f w→Wins P Q Z (G (Co.fr fn t' todo m) cs) w
theorem Side.next{f g:Fm}{w w':World}(h:Side E K W Z f w)(hk:Kept0 (ownOf E f) (ownOf E g) w w'):Side E K W Z g w':=by
 refine⟨fun x hx=>?_,fun x hx=>Nat.lt_of_lt_of_le (h.low x hx) hk.size,fun x hx=>?_,fun x hx=>Nat.lt_of_lt_of_le (h.zed x hx) hk.size,fun x hx=>⟨Nat.lt_of_lt_of_le (h.ro x hx).1 hk.size,(h.ro x hx).2⟩,Nat.le_trans h.size hk.size,hk.still.1.trans h.still.1,hk.still.2.trans h.still.2⟩
 ·rw[hk.keep x (h.low x hx) fun ho=>(h.own x ho).1 hx];exact h.old x hx
 ·rcases hk.grow x hx with h1|h1
  ·exact h.own x h1
  ·refine⟨fun hz=>?_,fun hz=>?_⟩
   ·have:=h.low x hz;omega
   ·have:=h.zed x hz;omega
def StopR(P:Program)(Q:Value→World→Prop)(E:Env)(K:Nat→Prop)(W:World)(Z:Nat→Prop)(cs:List Frame)(fn:FuncId)(own:Nat→Prop)(g:Goroutine)(w:World):Prop :=
 ∃f t t' u todo m,own=ownOf E f∧AR E.ok f t t'∧WR E f u w∧g=G (Co.fr fn t' todo m) cs∧WinsR P Q E K W Z cs fn t todo m u
theorem winsR_ends(h:∀ f t' w,AR E.ok f t t'→WR E f (Co.re w0 w.tape w.drawn) w→∃ ρ,Co.Ends P true E.ro (StopR P Q E K W Z cs fn) ρ (ownOf E f) (G (Co.fr fn t' todo m) cs) w):WinsR P Q E K W Z cs fn t todo m w0:=by
 intro f t' w ha hw hs;obtain⟨ρ,hE⟩:=h f t' w ha hw;refine wins_ends ρ hE (fun x hx=>⟨(hs.own x hx).2,?_⟩) (fun x hx=>⟨(hs.ro x hx).2,(hs.ro x hx).1⟩) hs.zed ?_
 ·obtain⟨⟨r,e⟩,-⟩:=hx;exact(hw.lt e).2
 ·rintro own' g' w' ⟨f2,t2,t2',u,todo2,m2,rfl,a1,a2,rfl,a3⟩ hk;refine a3 f2 t2' w' a1 ?_ (hs.next hk);have e1:=a2.tape;have e2:=a2.drawn
  have:Co.re u w'.tape w'.drawn=u:=by rw[e1,e2,bQ]
  rw[this];exact a2
theorem iM(hS:Sound P E){R:Bool→Array Value→Array Obj→Prop}{c:Code}(hF:∃ F,P.funcs[fn]? = some F)(hc:OkCode P E c)
 (h:∀ τ d,c.wp P (fun|.normal,a,w=>R false a.tmps w.heap|.ret,a,w=>R true a.tmps w.heap|_,_,_=>False) ⟨t,[]⟩ (Co.re w0 τ d))
 (hn:∀ t2 u,R false t2 u.heap→WinsR P Q E K W Z cs fn t2 k .run u) (hr:∀ t2 u todo,R true t2 u.heap→WinsR P Q E K W Z cs fn t2 todo .returning u):WinsR P Q E K W Z cs fn t (.code c::k) .run w0:=by
 refine winsR_ends fun f t' w ha hw=>?_;obtain⟨ρ,hE⟩:=goal_piece hS (main:=true) (k:=k) (cs:=cs) hF hc ha hw h;refine hE.trans ?_;rintro own g w ⟨f2,t2,t2',u,a1,rfl,a2,⟨a3,rfl⟩|⟨a3,todo,rfl⟩⟩
 ·refine Ends.stop fun w₁ h₁=>⟨f2,t2,t2',Co.re u w₁.tape w₁.drawn,k,.run,rfl,a1,?_,rfl,hn t2 u a3⟩
  exact WR.rely (τ:=u.tape) (d:=u.drawn) (by rw[bQ];exact a2) h₁
 ·refine Ends.stop fun w₁ h₁=>⟨f2,t2,t2',Co.re u w₁.tape w₁.drawn,todo,.returning,rfl,a1,?_,rfl,hr t2 u todo a3⟩
  exact WR.rely (τ:=u.tape) (d:=u.drawn) (by rw[bQ];exact a2) h₁
theorem dA{todo2:List Item}{m2:FrameMode}(h:∀ t' w,stepG P true (G (Co.fr fn t' todo m) cs) w=.go (G (Co.fr fn t' todo2 m2) cs) w #[])(hk:WinsR P Q E K W Z cs fn t todo2 m2 w0):WinsR P Q E K W Z cs fn t todo m w0:=by
 intro f t' w ha hw hs;exact wins_calm (h t') (hk f t' w ha hw hs)
theorem ai{a b:Code}(hk:WinsR P Q E K W Z cs fn t (.code a::.code b::k) .run w0):WinsR P Q E K W Z cs fn t (.code (.seq a b)::k) .run w0 :=
 dA (fun t' w=>by simp[G,stepG,stepG.exec,Co.fr]) hk
theorem bf{ops:Array Oper}(hk:WinsR P Q E K W Z cs fn t k .run w0):WinsR P Q E K W Z cs fn t (.inRegion ops []::k) .run w0 :=
 dA (fun t' w=>by simp[G,stepG,stepG.exec,Co.fr]) hk
theorem winsR_op(hS:Sound P E){ops:Array Oper}{i:Nat}{rest:List Nat}{o:Oper}(ho:ops[i]? = some o)(hw:∀ t',Region.wanted o (yielded ops t')=true)(hok:Co.OkOp P E o.op)
 (hr:∀ τ d,∃v u,(execOp (Act.eval ⟨t,[]⟩) o).run P (Co.re w0 τ d)=.ok (.value v) u∧WinsR P Q E K W Z cs fn (Act.put ⟨t,[]⟩ o.dst v).tmps (.inRegion ops rest::k) .run u):WinsR P Q E K W Z cs fn t (.inRegion ops (i::rest)::k) .run w0:=by
 refine winsR_ends fun f t' w ha hwr=>?_;refine Ends.step rfl fun w₁ h₁=>?_;have hw1:=hwr.rely h₁;have hrel:=op_rel (f:=f) hS.glob (fr:=(base fn).at ⟨t,[]⟩ (.inRegion ops (i::rest)::k)) (fr':=(base fn).at ⟨t',[]⟩ (.inRegion ops (i::rest)::k)) ha hok;rw[Frame.eval_at',Frame.eval_at']at hrel;obtain⟨v,u,hru,hk⟩:=hr w₁.tape w₁.drawn;have e0:Co.re (Co.re w0 w.tape w.drawn) w₁.tape w₁.drawn=Co.re w0 w₁.tape w₁.drawn:=rfl;obtain⟨g,b,w2',new,r1,r2,r3,r4,r5,r6⟩:=hrel f f.le_refl _ w₁ hw1 _ _ hru
 cases r3 with
 |@value _ v' hv =>
  have hrun:(execOp (Act.eval ⟨t',[]⟩) o).run P w₁=.ok (.value v') w2':=by
   rw[←Sem.runT_fst P _ w₁ #[],r1 #[]]
  have hl:=stepG_value (P:=P) (main:=true) (b:=base fn) (a:=⟨t',[]⟩) (k:=k) (cs:=cs) (rest:=rest) ho (hw t') (by simp[base]) hrun;rw[fr_at _ _ _ (put_defers _)]at hl;refine⟨.leaf,ownOf E g,_,_,_,hl,.of_foot r4 (fun e he=>?_) (fun _ _ e=>(r2.lt e).2),fun w₂ h₂=>?_⟩
  ·have h3:e∈(execOp (Act.eval ⟨t',[]⟩) o).events P w₁ #[]:=mem_seen he;unfold Sem.events at h3;rw[r1 #[]]at h3;simp only[Array.empty_append]at h3;exact r5 e h3
  ·refine⟨g,_,_,Co.re u w₂.tape w₂.drawn,_,_,rfl,fG (ha.mono r4.le) hv o.dst,?_,rfl,hk⟩
   exact WR.rely (τ:=u.tape) (d:=u.drawn) (by rw[bQ];exact r2) h₂
theorem kJ(hS:Sound P E){ops:Array Oper}{i:Nat}{rest:List Nat}{o:Oper}{v:Value}(ho:ops[i]? = some o)(hw:∀ t',Region.wanted o (yielded ops t')=true)(hok:Co.OkOp P E o.op)
 (hr:∀ τ d,(execOp (Act.eval ⟨t,[]⟩) o).run P (Co.re w0 τ d)=.ok (.value v) (Co.re w0 τ d)) (hk:WinsR P Q E K W Z cs fn (Act.put ⟨t,[]⟩ o.dst v).tmps (.inRegion ops rest::k) .run w0):WinsR P Q E K W Z cs fn t (.inRegion ops (i::rest)::k) .run w0 :=
 winsR_op hS ho hw hok fun τ d=>⟨v,_,hr τ d,hk⟩
theorem winsR_leave{F:Func}{v:Value}{c:Frame}(hF:P.funcs[fn]? = some F)(h:∀ τ d,(results F t).run P (Co.re w0 τ d)=.ok v (Co.re w0 τ d))
 (hk:∀ f v' w,VR E.ok f v v'→WR E f (Co.re w0 w.tape w.drawn) w→Side E K W Z f w→Wins P Q Z (G (c.finish v') cs) w):WinsR P Q E K W Z (c::cs) fn t todo .returning w0:=by
 intro f t' w ha hw hs;refine dB rfl fun τ d=>?_
 have hw':WR E f (Co.re w0 τ d) (Co.re w τ d):=by
  have:=hw.re τ d;rwa[re_re]at this
 obtain⟨g,v',w2',new,r1,r2,r3,r4,r5,m2,q1,q2,q3⟩:=fO (P:=P) (E:=E) F ha f f.le_refl _ _ hw' _ _ (h τ d);have hgr:=Guar.of_foot r4 r5 (fun _ _ e=>(r2.lt e).2)
 have hkp:Kept0 (ownOf E f) (ownOf E g) (Co.re w τ d) w2':=⟨hgr.size,hgr.keep,hgr.grow,fun x hx=>by
  obtain⟨⟨r,e⟩,-⟩:=hx
  exact(r2.lt e).2,hgr.le,hgr.os,hgr.output⟩
 have hs1:Side E K W Z f (Co.re w τ d):=⟨hs.old,hs.low,hs.own,hs.zed,hs.ro,hs.size,hs.still⟩;have hs2:=hs1.next hkp;have hl:=Co.leave_step (P:=P) (main:=true) (todo:=todo) (c:=c) (cs:=cs) hF (r1 #[]);have e1:=r2.tape;have e2:=r2.drawn;simp only[jW,eu]at e1 e2;refine⟨_,w2',w2'.drawn,seen P fn (#[]++new),?_,hkp.size,fun e he=>mi (own:=ownOf E g) (ro:=E.ro) (hgr.ev e ?_) (fun x hx=>⟨(hs2.own x hx).2,hkp.lt x hx⟩) (fun x hx=>⟨(hs2.ro x hx).2,(hs2.ro x hx).1⟩),hk g v' w2' r3 ?_ hs2⟩
 ·rw[hl,←e1,bQ]
 ·simpa using mem_seen he
 ·have:Co.re w0 w2'.tape w2'.drawn=Co.re w0 τ d:=by rw[e1,e2]
  rw[this];exact r2
theorem winsR_end{F:Func}{b:Bool}(hF:P.funcs[fn]? = some F)(hi:P.inits.idxOf? fn=none)(h:∀ τ d,(results F t).run P (Co.re w0 τ d)=.ok (.bool b) (Co.re w0 τ d))
 (hq:∀ w,(∀x,K x→w.heap[x]? = W.heap[x]?)→(∀x,K x→x<w.heap.size)→w.os=W.os∧w.output=W.output→Q (.bool b) w):WinsR P Q E K W Z [] fn t todo .returning w0:=by
 intro f t' w ha hw hs;refine turn rfl fun gs sl t0 q τ d h0 hL hP=>.inr ?_
 have hw':WR E f (Co.re w0 τ d) (Co.re w τ d):=by
  have:=hw.re τ d;rwa[re_re]at this
 obtain⟨g,v',w2',new,r1,r2,r3,r4,r5,m2,q1,q2,q3⟩:=fO (P:=P) (E:=E) F ha f f.le_refl _ _ hw' _ _ (h τ d);cases r3;have hgr:=Guar.of_foot r4 r5 (fun _ _ e=>(r2.lt e).2)
 have hk:Kept0 (ownOf E f) (ownOf E g) (Co.re w τ d) w2':=⟨hgr.size,hgr.keep,hgr.grow,fun x hx=>by
  obtain⟨⟨r,e⟩,-⟩:=hx
  exact(r2.lt e).2,hgr.le,hgr.os,hgr.output⟩
 have hs1:Side E K W Z f (Co.re w τ d):=⟨hs.old,hs.low,hs.own,hs.zed,hs.ro,hs.size,hs.still⟩;have hs2:=hs1.next hk;refine own_end (w':=w2') (es:=seen P fn new) (B:=w2'.heap.size) h0 hL hP ?_ hk.size (fun e he=>mi (own:=ownOf E g) (ro:=E.ro) (hgr.ev e (mem_seen he)) (fun x hx=>⟨(hs2.own x hx).2,hk.lt x hx⟩) fun x hx=>⟨(hs2.ro x hx).2,(hs2.ro x hx).1⟩) (hq w2' hs2.old hs2.low hs2.still);rw[step_ret rfl];unfold unwind;simp only[Co.fr];rw[hF];simp only[r1 #[],doReturn,GStep.after,Array.append_empty,Array.empty_append,hi,Bool.not_true,Bool.false_eq_true,if_false]
end
end Cl
