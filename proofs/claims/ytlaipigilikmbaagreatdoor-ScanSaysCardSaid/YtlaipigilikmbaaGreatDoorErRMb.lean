/- Rules of the judgement: operations that load, store and make rows; what the reflection's functions do. -/
import Derived.Test.YtlaipigilikmbaaGreatDoorErC2Mb
import Derived.Test.YtlaipigilikmbaaGreatDoorMb28
import Derived.Test.YtlaipigilikmbaaGreatDoorToldMb
set_option linter.unusedVariables false
namespace Go.Proofs.YtlaipigilikmbaaGreatDoor.Cl
open Go Go.Conc Go.Proofs.YtlaipigilikmbaaGreatDoor.Co Go.Proofs.YtlaipigilikmbaaGreatDoor.Ph Go.Extern
section
variable {P:Program} {Q:Value→World→Prop} {Z:Nat→Prop} {g:Goroutine} {o:Oper} {v:Value} {w w':World}
theorem wins_op (h:AtO g o) (hs:g.status = .running) (hsz:w.heap.size ≤ w'.heap.size) (hr:∀ τ d,(execOp (aOf g).eval o).run P (Co.re w τ d) = .ok (.value v) (Co.re w' τ d))
    (hev:∀ τ d,∀ e ∈ (execOp (aOf g).eval o).events P (Co.re w τ d) #[],EvO (fun _=>False) (fun x=>¬ Z x∧x < w'.heap.size) e) (hk:Wins P Q Z (fin g v) w'):Wins P Q Z g w :=
  wins_step hs fun τ d=>⟨_,w',d,_,step_value h (hr τ d),hsz,fun e he=>evL_own (hev τ d e (mem_seen he)) (fun x hx=>hx) (fun x hx=>hx.elim),hk⟩
theorem wins_skip (h:AtO g o) (hs:g.status = .running) (hsz:w.heap.size ≤ w'.heap.size) (hr:∀ τ d,(execOp (aOf g).eval o).run P (Co.re w τ d) = .ok .skip (Co.re w' τ d))
    (hev:∀ τ d,∀ e ∈ (execOp (aOf g).eval o).events P (Co.re w τ d) #[],EvO (fun _=>False) (fun x=>¬ Z x∧x < w'.heap.size) e) (hk:Wins P Q Z (fin g undef) w'):Wins P Q Z g w :=
  wins_step hs fun τ d=>⟨_,w',d,_,Ph.step_skip h (hr τ d),hsz,fun e he=>evL_own (hev τ d e (mem_seen he)) (fun x hx=>hx) (fun x hx=>hx.elim),hk⟩
theorem wins_push {V:Nat→Value} {ob:Obj} {es:Array Event} (h:AtO g o) (hs:g.status = .running) (hr:∀ u:World,(execOp (aOf g).eval o).runT P u #[] = (.ok (.value (V u.heap.size)) { u with heap:=u.heap.push ob },es)) (he:∀ e ∈ es,∃ i,e.loc = .mark (.extern i))
    (hk:Wins P Q Z (fin g (V w.heap.size)) { w with heap:=w.heap.push ob }):Wins P Q Z g w:=by
  refine wins_op (w':={ w with heap:=w.heap.push ob }) h hs (by simp) (fun τ d=>?_) (fun τ d e hm=>?_) hk
  · rw [← Sem.runT_fst P _ _ #[],hr]
    rfl
  · unfold Sem.events at hm
    rw [hr] at hm
    exact .inr (.inr (.inr (he e hm)))
theorem qt_agg {ty:TypeId} {d:TypeDesc} (hu:P.underlying ty = some d):Qt P (isAgg ty) (match d with | .struct _ | .array _ _=>true | _=>false):=by
  unfold isAgg
  refine (Qt.under hu).bind ?_
  cases d <;> exact .pure _
theorem ld_cell {ty:TypeId} {d:TypeDesc} {a:Addr} {u:World} (hu:P.underlying ty = some d) (hd:(match d with | .struct _ | .array _ _=>true | _=>false) = false) (hc:u.cell? a = some v) (es:Array Event):(loadVar ty a).runT P u es = (.ok v u,es.push ⟨.cell a,false,false⟩):=by
  have hq:=qt_agg hu
  rw [hd] at hq
  unfold loadVar
  refine (rt_bind (hq u es)).trans ?_
  simp only [Bool.false_eq_true,if_false,Go.load,Sem.runT,hc]
  rfl
theorem st_cell {ty t:TypeId} {b:Nat} {old:Array Value} {k:IntKind} {n:Int} {u:World} (hb:u.heap[b]? = some (.cells old t (0,0))) (h1:old.size = 1) (hi:(P.info? ty).map (·.size) = some 1) (es:Array Event) :
    (storeVar ty ⟨b,0,none⟩ (.int k n)).runT P u es = (.ok () (u.setRow b (old.setIfInBounds 0 (.int k n))),es.push ⟨.cell ⟨b,0,none⟩,true,false⟩):=by
  have hadd:(⟨b,0,none⟩:Addr).add 0 = ⟨b,0,none⟩:=by unfold Addr.add; simp
  have hcell:u.cell? ⟨b,0,none⟩ = some (old[0]'(by omega)):=by simp [World.cell?,hb,h1]
  have hfro:u.frozen? ⟨b,0,none⟩ = false:=by simp [World.frozen?,hb]
  unfold storeVar
  refine (rt_bind (qt_sizeOf hi u es)).trans ?_
  rw [if_neg (by simp [Value.cells])]
  show (storeCells ⟨b,0,none⟩ [.int k n] 0).runT P u es = _
  have hst:(store ⟨b,0,none⟩ (.int k n)).runT P u es = (.ok () (u.setRow b (old.setIfInBounds 0 (.int k n))),es.push ⟨.cell ⟨b,0,none⟩,true,false⟩):=by
    simp only [Go.store,Sem.runT,hcell,hfro,setCell_eq_setRow u b 0 old t (0,0) (.int k n) hb]
    rfl
  unfold storeCells
  rw [hadd]
  refine (rt_bind hst).trans ?_
  rfl
theorem wins_load {ty:TypeId} {d:TypeDesc} {x:Operand} {a:Addr} (h:AtO g o) (hs:g.status = .running) (hop:o.op = .load ty x) (hx:(aOf g).eval x = .pointer (some a)) (hu:P.underlying ty = some d) (hd:(match d with | .struct _ | .array _ _=>true | _=>false) = false) (hc:w.cell? a = some v) (hz:¬ Z a.block) (hk:Wins P Q Z (fin g v) w):Wins P Q Z g w:=by
  have hex:execOp (aOf g).eval o = (loadVar ty a >>= fun v=>Pure.pure (Next.value v)):=by
    unfold execOp
    simp only [hop,hx]
    rfl
  have hT:∀ τ d,(execOp (aOf g).eval o).runT P (Co.re w τ d) #[] = (.ok (.value v) (Co.re w τ d),#[⟨.cell a,false,false⟩]):=fun τ d=>by
    rw [hex]
    refine (rt_bind (ld_cell hu hd (u:=Co.re w τ d) hc #[])).trans ?_
    rfl
  have hl:a.block < w.heap.size:=World.block_lt_of_cell? w a hc
  refine wins_op (w':=w) h hs (Nat.le_refl _) (fun τ d=>?_) (fun τ d e hm=>?_) hk
  · rw [← Sem.runT_fst P _ _ #[],hT]
  · unfold Sem.events at hm
    rw [hT] at hm
    simp at hm
    subst hm
    exact .inl ⟨a,rfl,rfl,.inl ⟨hz,hl⟩⟩
theorem ld_row {ty t:TypeId} {d:TypeDesc} {b:Nat} {cs:Array Value} {fz:Nat × Nat} {u:World} (hu:P.underlying ty = some d) (hd:(match d with | .struct _ | .array _ _=>true | _=>false) = true) (hi:(P.info? ty).map (·.size) = some cs.size) (hb:u.heap[b]? = some (.cells cs t fz)) :
    (loadVar ty ⟨b,0,none⟩).run P u = .ok (.agg cs) u∧∀ e ∈ (loadVar ty ⟨b,0,none⟩).events P u #[],∃ ad,e = ⟨.cell ad,false,false⟩∧ad.block = b:=by
  refine ⟨run_loadVar_mid (P:=P) u b 0 ty cs.toList d (fun j v hv=>by simpa [World.cell?,hb] using hv) hu (by cases d <;> first | rfl | cases hd) (by simpa using hi),fun e he2=>?_⟩
  have hq:=qt_agg hu
  rw [hd] at hq
  have hag:(isAgg ty).run P u = .ok true u∧(isAgg ty).events P u #[] = #[]:=⟨by rw [← Sem.runT_fst P _ u #[],hq],by unfold Sem.events; rw [hq]⟩
  have hqt:=qt_sizeOf (P:=P) hi
  have hsz:(Go.sizeOf ty).run P u = .ok cs.size u∧(Go.sizeOf ty).events P u #[] = #[]:=⟨by rw [← Sem.runT_fst P _ u #[],hqt],by unfold Sem.events; rw [hqt]⟩
  unfold loadVar at he2
  rw [Sem.events_bind,hag.1,hag.2,Result.evThen_ok] at he2
  simp only [if_true] at he2
  rw [Sem.events_bind,hsz.1,hsz.2,Result.evThen_ok,Sem.events_bind] at he2
  have he3:e ∈ (loadCells ⟨b,0,none⟩ cs.size).events P u #[]:=by
    revert he2
    cases (loadCells ⟨b,0,none⟩ cs.size).run P u with
    | ok a w2=>exact fun h=>h
    | halt a w2=>exact fun h=>h
  rcases ev_loadCells b _ 0 0 #[] u #[] ⟨cs,t,fz,hb⟩ e he3 with h | ⟨ad,rfl,hab⟩
  · simp at h
  · exact ⟨ad,rfl,hab⟩
theorem wins_loadRow {ty t:TypeId} {d:TypeDesc} {x:Operand} {b:Nat} {cs:Array Value} {fz:Nat × Nat} (h:AtO g o) (hs:g.status = .running) (hop:o.op = .load ty x) (hx:(aOf g).eval x = .pointer (some ⟨b,0,none⟩)) (hu:P.underlying ty = some d) (hd:(match d with | .struct _ | .array _ _=>true | _=>false) = true) (hi:(P.info? ty).map (·.size) = some cs.size)
    (hb:w.heap[b]? = some (.cells cs t fz)) (hz:¬ Z b) (hk:Wins P Q Z (fin g (.agg cs)) w):Wins P Q Z g w:=by
  have hex:execOp (aOf g).eval o = (loadVar ty ⟨b,0,none⟩ >>= fun v=>Pure.pure (Next.value v)):=by
    unfold execOp
    simp only [hop,hx]
    rfl
  have hl:b < w.heap.size:=(Array.getElem?_eq_some_iff.1 hb).1
  refine wins_op (w':=w) h hs (Nat.le_refl _) (fun τ d=>?_) (fun τ d e hm=>?_) hk
  · rw [hex,Sem.run_bind,(ld_row hu hd hi (u:=Co.re w τ d) hb).1,Result.andThen_ok]
    rfl
  · rw [hex,Sem.events_bind,(ld_row hu hd hi (u:=Co.re w τ d) hb).1,Result.evThen_ok] at hm
    obtain ⟨ad,rfl,hab⟩:=(ld_row hu hd hi (u:=Co.re w τ d) hb).2 e hm
    exact .inl ⟨ad,rfl,rfl,.inl (by rw [hab]; exact ⟨hz,hl⟩)⟩
theorem wins_storeRow {ty t:TypeId} {x y:Operand} {b:Nat} {old new:Array Value} (h:AtO g o) (hs:g.status = .running) (hop:o.op = .store ty x y) (hx:(aOf g).eval x = .pointer (some ⟨b,0,none⟩)) (hy:(aOf g).eval y = .agg new) (hb:w.heap[b]? = some (.cells old t (0,0))) (hz:¬ Z b)
    (hi:(P.info? ty).map (·.size) = some new.size) (hsz:old.size = new.size) (h1:new.all (·.oneCell') = true) (hk:Wins P Q Z (fin g undef) (w.setRow b new)):Wins P Q Z g w:=by
  have hl:b < w.heap.size:=(Array.getElem?_eq_some_iff.1 hb).1
  have hex:execOp (aOf g).eval o = (do storeVar ty ⟨b,0,none⟩ (.agg new); Pure.pure Next.skip):=by
    unfold execOp
    simp only [hop,hx,hy]
    rfl
  refine wins_skip (w':=w.setRow b new) h hs (by simp [World.setRow]) (fun τ d=>?_) (fun τ d e he=>?_) hk
  · rw [hex,Sem.run_bind,run_storeVar_row (P:=P) (Co.re w τ d) b t ty old new hb hi hsz h1,Result.andThen_ok]
    rfl
  · have hb1:(Co.re w τ d).heap[b]? = some (.cells old t (0,0)):=hb
    generalize Co.re w τ d = u at *
    rw [hex,Sem.events_bind,run_storeVar_row (P:=P) u b t ty old new hb1 hi hsz h1,Result.evThen_ok] at he
    have he2:e ∈ (Go.storeVar ty ⟨b,0,none⟩ (.agg new)).events P u #[]:=he
    have hqt:=qt_sizeOf (P:=P) hi
    have e1:(Go.sizeOf ty).run P u = .ok new.size u:=by rw [← Sem.runT_fst P _ u #[],hqt]
    have e2:(Go.sizeOf ty).events P u #[] = #[]:=by unfold Sem.events; rw [hqt]
    have hz2:(Go.storeVar ty ⟨b,0,none⟩ (.agg new)).events P u #[] = (storeCells ⟨b,0,none⟩ new.toList 0).events P u #[]:=by
      unfold Go.storeVar
      rw [Sem.events_bind,e1,Result.evThen_ok,e2]
      simp [Value.cells]
    rw [hz2] at he2
    rcases ev_storeCells b 0 t new.toList 0 old u #[] hb1 (by simp; omega) (fun v hv=>(Array.all_eq_true_iff_forall_mem.1 h1) v (by simpa using hv)) e he2 with h | ⟨ad,rfl,hab⟩
    · simp at h
    · exact .inl ⟨ad,rfl,rfl,.inl (by rw [hab]; exact ⟨hz,by simpa [World.setRow] using hl⟩)⟩
end
section
variable {u:World} {a p:Addr} (es:Array Event)
theorem parts1 (b:Nat):(ReflectliteValue.parts (erV1 b)).runT Tryz.prog u es = (.ok (some (103,⟨b,0,none⟩,150)) u,es):=by kernel_rfl
theorem parts2 (b:Nat):(ReflectliteValue.parts (erV2 b)).runT Tryz.prog u es = (.ok (some (38,⟨b,0,none⟩,386)) u,es):=by kernel_rfl
theorem parts3 (b:Nat):(ReflectliteValue.parts (erV3 b)).runT Tryz.prog u es = (.ok (some (38,⟨b,0,none⟩,130)) u,es):=by kernel_rfl
theorem elemT:(Rtype.elem? 103).runT Tryz.prog u es = (.ok (some 38) u,es):=by kernel_rfl
theorem mkT (b:Nat):(ReflectliteValue.mk 38 ⟨b,0,none⟩ ReflectliteValue.flagAddr).runT Tryz.prog u es = (.ok (erV2 b) u,es):=by kernel_rfl
theorem directT:(Rtype.directlyAssignable 38 38).runT Tryz.prog u es = (.ok true u,es):=by kernel_rfl
theorem isNilT {b:Nat} (hc:u.cell? ⟨b,0,none⟩ = some (.pointer (some p))):(ReflectliteValue.method (ReflectliteValue.valueError "reflectlite.Value.IsNil" 0) ReflectliteValue.isNil #[erV1 b]).runT Tryz.prog u es = (.ok (.bool false) u,es.push ⟨.cell ⟨b,0,none⟩,false,false⟩):=by
  rw [ToldW.rlm]
  refine (rt_bind (parts1 es b)).trans ?_
  show (ReflectliteValue.isNil 103 ⟨b,0,none⟩ 150 22).runT Tryz.prog u es = _
  unfold ReflectliteValue.isNil
  refine (rt_bind (ld_cell Tryz.underlying103 rfl hc es)).trans ?_
  rfl
theorem elemVT {b q:Nat} (hc:u.cell? ⟨b,0,none⟩ = some (.pointer (some ⟨q,0,none⟩))):(ReflectliteValue.method (ReflectliteValue.valueError "reflectlite.Value.Elem" 0) ReflectliteValue.elem #[erV1 b]).runT Tryz.prog u es = (.ok (erV2 q) u,es.push ⟨.cell ⟨b,0,none⟩,false,false⟩):=by
  rw [ToldW.rlm]
  refine (rt_bind (parts1 es b)).trans ?_
  show (ReflectliteValue.elem 103 ⟨b,0,none⟩ 150 22).runT Tryz.prog u es = _
  unfold ReflectliteValue.elem
  refine (rt_bind (ld_cell Tryz.underlying103 rfl hc es)).trans ?_
  refine (rt_bind (elemT _)).trans ?_
  exact mkT _ q
theorem setT {b q:Nat} {n:Int} {t:TypeId} {old:Array Value} (hb:u.heap[b]? = some (.cells old t (0,0))) (h1:old.size = 1) (hq:u.cell? ⟨q,0,none⟩ = some (.int .i64 n)) :
    (ReflectliteValue.set #[erV2 b,erV3 q]).runT Tryz.prog u es = (.ok (.tuple #[]) (u.setRow b (old.setIfInBounds 0 (.int .i64 n))),(es.push ⟨.cell ⟨q,0,none⟩,false,false⟩).push ⟨.cell ⟨b,0,none⟩,true,false⟩):=by
  rw [ToldW.rls]
  refine (rt_bind (parts2 es b)).trans ?_
  refine (rt_bind (parts3 es q)).trans ?_
  refine (rt_bind (ld_cell Tryz.underlying38 rfl hq es)).trans ?_
  refine (rt_bind (directT _)).trans ?_
  refine (rt_bind (st_cell hb h1 (by kernel_rfl) _)).trans ?_
  rfl
end
end Go.Proofs.YtlaipigilikmbaaGreatDoor.Cl
