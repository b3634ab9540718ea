/- Texts of this seat,put together: ErR,ErW,ErN,ErL. -/
import Derived.Test.YtlaipigilikmbaaGreatDoorMb38
import Derived.Test.YtlaipigilikmbaaGreatDoorMb28
import Derived.Test.YtlaipigilikmbaaGreatDoorMb39
import Derived.Test.YtlaipigilikmbaaGreatDoorMb29
namespace Go.Proofs.YtlaipigilikmbaaGreatDoor
noncomputable section
set_option linter.unusedVariables false
set_option linter.unusedSimpArgs false
namespace Cl
open Conc Co Ph Go.Extern
section
variable {P:Program}{Q:Value→World→Prop}{Z:Nat→Prop}{g:Goroutine}{o:Oper}{v:Value}{w w':World}
theorem ku(h:AtO g o)(hs:g.status=.running)(hsz:w.heap.size≤w'.heap.size)(hr:∀ τ d,(execOp (aOf g).eval o).run P (Co.re w τ d)=.ok (.value v) (Co.re w' τ d))
 (hev:∀ τ d,∀e∈(execOp (aOf g).eval o).events P (Co.re w τ d) #[],EvO (fun _=>False) (fun x=>¬ Z x∧x<w'.heap.size) e) (hk:Wins P Q Z (fin g v) w'):Wins P Q Z g w :=
 dB hs fun τ d=>⟨_,w',d,_,step_value h (hr τ d),hsz,fun e he=>mi (hev τ d e (mem_seen he)) (fun x hx=>hx) (fun x hx=>hx.elim),hk⟩
theorem wins_skip(h:AtO g o)(hs:g.status=.running)(hsz:w.heap.size≤w'.heap.size)(hr:∀ τ d,(execOp (aOf g).eval o).run P (Co.re w τ d)=.ok .skip (Co.re w' τ d))
 (hev:∀ τ d,∀e∈(execOp (aOf g).eval o).events P (Co.re w τ d) #[],EvO (fun _=>False) (fun x=>¬ Z x∧x<w'.heap.size) e) (hk:Wins P Q Z (fin g undef) w'):Wins P Q Z g w :=
 dB hs fun τ d=>⟨_,w',d,_,Ph.step_skip h (hr τ d),hsz,fun e he=>mi (hev τ d e (mem_seen he)) (fun x hx=>hx) (fun x hx=>hx.elim),hk⟩
theorem jg{V:Nat→Value}{ob:Obj}{es:Array Event}(h:AtO g o)(hs:g.status=.running)(hr:∀ u:World,(execOp (aOf g).eval o).runT P u #[]=(.ok (.value (V u.heap.size)) {u with heap:=u.heap.push ob},es))(he:∀ e∈es,∃i,e.loc=.mark (.extern i))
 (hk:Wins P Q Z (fin g (V w.heap.size)) {w with heap:=w.heap.push ob}):Wins P Q Z g w:=by
 refine ku (w':={w with heap:=w.heap.push ob}) h hs (by simp) (fun τ d=>?_) (fun τ d e hm=>?_) hk
 ·rw[←Sem.runT_fst P _ _ #[],hr];rfl
 ·unfold Sem.events at hm;rw[hr]at hm;exact .inr (.inr (.inr (he e hm)))
theorem qt_agg{ty:TypeId}{d:TypeDesc}(hu:P.underlying ty=some d):Qt P (isAgg ty) (match d with|.struct _|.array _ _=>true|_=>false):=by
 unfold isAgg;refine(Qt.under hu).bind ?_
 cases d<;>exact .pure _
theorem mQ{ty:TypeId}{d:TypeDesc}{a:Addr}{u:World}(hu:P.underlying ty=some d)(hd:(match d with|.struct _|.array _ _=>true|_=>false)=false)(hc:u.cell? a=some v)(es:Array Event):(loadVar ty a).runT P u es=(.ok v u,es.push ⟨.cell a,false,false⟩):=by
 have hq:=qt_agg hu;rw[hd]at hq;unfold loadVar;refine(aP (hq u es)).trans ?_;simp only[Bool.false_eq_true,if_false,Go.load,Sem.runT,hc];rfl
theorem st_cell{ty t:TypeId}{b:Nat}{old:Array Value}{k:IntKind}{n:Int}{u:World}(hb:u.heap[b]? = some (.cells old t (0,0)))(h1:old.size=1)(hi:(P.info? ty).map (·.size)=some 1)(es:Array Event) :
 (storeVar ty ⟨b,0,none⟩ (.int k n)).runT P u es=(.ok () (u.setRow b (old.setIfInBounds 0 (.int k n))),es.push ⟨.cell ⟨b,0,none⟩,true,false⟩):=by
 have hadd:(⟨b,0,none⟩:Addr).add 0=⟨b,0,none⟩:=by unfold Addr.add;simp
 have hcell:u.cell? ⟨b,0,none⟩=some (old[0]'(by omega)):=by simp[World.cell?,hb,h1]
 have hfro:u.frozen? ⟨b,0,none⟩=false:=by simp[World.frozen?,hb]
 unfold storeVar;refine(aP (gJ hi u es)).trans ?_;rw[if_neg (by simp[Value.cells])];show(storeCells ⟨b,0,none⟩ [.int k n] 0).runT P u es=_
 have hst:(store ⟨b,0,none⟩ (.int k n)).runT P u es=(.ok () (u.setRow b (old.setIfInBounds 0 (.int k n))),es.push ⟨.cell ⟨b,0,none⟩,true,false⟩):=by
  simp only[Go.store,Sem.runT,hcell,hfro,setCell_eq_setRow u b 0 old t (0,0) (.int k n) hb];rfl
 unfold storeCells;rw[hadd];refine(aP hst).trans ?_;rfl
theorem wins_load{ty:TypeId}{d:TypeDesc}{x:Operand}{a:Addr}(h:AtO g o)(hs:g.status=.running)(hop:o.op=.load ty x)(hx:(aOf g).eval x=.pointer (some a))(hu:P.underlying ty=some d)(hd:(match d with|.struct _|.array _ _=>true|_=>false)=false)(hc:w.cell? a=some v)(hz:¬ Z a.block)(hk:Wins P Q Z (fin g v) w):Wins P Q Z g w:=by
 have hex:execOp (aOf g).eval o=(loadVar ty a >>= fun v=>Pure.pure (Next.value v)):=by
  unfold execOp;simp only[hop,hx];rfl
 have hT:∀ τ d,(execOp (aOf g).eval o).runT P (Co.re w τ d) #[]=(.ok (.value v) (Co.re w τ d),#[⟨.cell a,false,false⟩]):=fun τ d=>by
  rw[hex];refine(aP (mQ hu hd (u:=Co.re w τ d) hc #[])).trans ?_;rfl
 have hl:a.block<w.heap.size:=World.block_lt_of_cell? w a hc;refine ku (w':=w) h hs (Nat.le_refl _) (fun τ d=>?_) (fun τ d e hm=>?_) hk
 ·rw[←Sem.runT_fst P _ _ #[],hT]
 ·unfold Sem.events at hm;rw[hT]at hm;simp at hm;subst hm;exact .inl ⟨a,rfl,rfl,.inl ⟨hz,hl⟩⟩
theorem ld_row{ty t:TypeId}{d:TypeDesc}{b:Nat}{cs:Array Value}{fz:Nat×Nat}{u:World}(hu:P.underlying ty=some d)(hd:(match d with|.struct _|.array _ _=>true|_=>false)=true)(hi:(P.info? ty).map (·.size)=some cs.size)(hb:u.heap[b]? = some (.cells cs t fz)) :
 (loadVar ty ⟨b,0,none⟩).run P u=.ok (.agg cs) u∧∀ e∈(loadVar ty ⟨b,0,none⟩).events P u #[],∃ad,e=⟨.cell ad,false,false⟩∧ad.block=b:=by
 refine⟨run_loadVar_mid (P:=P) u b 0 ty cs.toList d (fun j v hv=>by simpa[World.cell?,hb] using hv) hu (by cases d<;>first|rfl|cases hd) (by simpa using hi),fun e he2=>?_⟩;have hq:=qt_agg hu;rw[hd]at hq;have hag:(isAgg ty).run P u=.ok true u∧(isAgg ty).events P u #[]=#[]:=⟨by rw[←Sem.runT_fst P _ u #[],hq],by unfold Sem.events;rw[hq]⟩;have hqt:=gJ (P:=P) hi;have hsz:(Go.sizeOf ty).run P u=.ok cs.size u∧(Go.sizeOf ty).events P u #[]=#[]:=⟨by rw[←Sem.runT_fst P _ u #[],hqt],by unfold Sem.events;rw[hqt]⟩;unfold loadVar at he2;rw[Sem.events_bind,hag.1,hag.2,Result.evThen_ok]at he2;simp only[if_true]at he2;rw[Sem.events_bind,hsz.1,hsz.2,Result.evThen_ok,Sem.events_bind]at he2
 have he3:e∈(loadCells ⟨b,0,none⟩ cs.size).events P u #[]:=by
  revert he2
  cases (loadCells ⟨b,0,none⟩ cs.size).run P u with
  |ok a w2=>exact fun h=>h
  |halt a w2=>exact fun h=>h
 rcases gG b _ 0 0 #[] u #[] ⟨cs,t,fz,hb⟩ e he3 with h|⟨ad,rfl,hab⟩
 ·simp at h
 ·exact⟨ad,rfl,hab⟩
theorem gm{ty t:TypeId}{d:TypeDesc}{x:Operand}{b:Nat}{cs:Array Value}{fz:Nat×Nat}(h:AtO g o)(hs:g.status=.running)(hop:o.op=.load ty x)(hx:(aOf g).eval x=.pointer (some ⟨b,0,none⟩))(hu:P.underlying ty=some d)(hd:(match d with|.struct _|.array _ _=>true|_=>false)=true)(hi:(P.info? ty).map (·.size)=some cs.size)
 (hb:w.heap[b]? = some (.cells cs t fz)) (hz:¬ Z b) (hk:Wins P Q Z (fin g (.agg cs)) w):Wins P Q Z g w:=by
 have hex:execOp (aOf g).eval o=(loadVar ty ⟨b,0,none⟩ >>= fun v=>Pure.pure (Next.value v)):=by
  unfold execOp;simp only[hop,hx];rfl
 have hl:b<w.heap.size:=(Array.getElem?_eq_some_iff.1 hb).1;refine ku (w':=w) h hs (Nat.le_refl _) (fun τ d=>?_) (fun τ d e hm=>?_) hk
 ·rw[hex,Sem.run_bind,(ld_row hu hd hi (u:=Co.re w τ d) hb).1,Result.andThen_ok];rfl
 ·rw[hex,Sem.events_bind,(ld_row hu hd hi (u:=Co.re w τ d) hb).1,Result.evThen_ok]at hm;obtain⟨ad,rfl,hab⟩:=(ld_row hu hd hi (u:=Co.re w τ d) hb).2 e hm;exact .inl ⟨ad,rfl,rfl,.inl (by rw[hab];exact⟨hz,hl⟩)⟩
theorem wins_storeRow{ty t:TypeId}{x y:Operand}{b:Nat}{old new:Array Value}(h:AtO g o)(hs:g.status=.running)(hop:o.op=.store ty x y)(hx:(aOf g).eval x=.pointer (some ⟨b,0,none⟩))(hy:(aOf g).eval y=.agg new)(hb:w.heap[b]? = some (.cells old t (0,0)))(hz:¬ Z b)
 (hi:(P.info? ty).map (·.size)=some new.size) (hsz:old.size=new.size) (h1:new.all (·.oneCell')=true) (hk:Wins P Q Z (fin g undef) (w.setRow b new)):Wins P Q Z g w:=by
 have hl:b<w.heap.size:=(Array.getElem?_eq_some_iff.1 hb).1
 have hex:execOp (aOf g).eval o=(do storeVar ty ⟨b,0,none⟩ (.agg new);Pure.pure Next.skip):=by
  unfold execOp;simp only[hop,hx,hy];rfl
 refine wins_skip (w':=w.setRow b new) h hs (by simp[World.setRow]) (fun τ d=>?_) (fun τ d e he=>?_) hk
 ·rw[hex,Sem.run_bind,run_storeVar_row (P:=P) (Co.re w τ d) b t ty old new hb hi hsz h1,Result.andThen_ok];rfl
 ·have hb1:(Co.re w τ d).heap[b]? = some (.cells old t (0,0)):=hb;generalize Co.re w τ d=u at *;rw[hex,Sem.events_bind,run_storeVar_row (P:=P) u b t ty old new hb1 hi hsz h1,Result.evThen_ok]at he;have he2:e∈(Go.storeVar ty ⟨b,0,none⟩ (.agg new)).events P u #[]:=he;have hqt:=gJ (P:=P) hi
  have e1:(Go.sizeOf ty).run P u=.ok new.size u:=by rw[←Sem.runT_fst P _ u #[],hqt]
  have e2:(Go.sizeOf ty).events P u #[]=#[]:=by unfold Sem.events;rw[hqt]
  have hz2:(Go.storeVar ty ⟨b,0,none⟩ (.agg new)).events P u #[]=(storeCells ⟨b,0,none⟩ new.toList 0).events P u #[]:=by
   unfold Go.storeVar;rw[Sem.events_bind,e1,Result.evThen_ok,e2];simp[Value.cells]
  rw[hz2]at he2;rcases dN b 0 t new.toList 0 old u #[] hb1 (by simp;omega) (fun v hv=>(Array.all_eq_true_iff_forall_mem.1 h1) v (by simpa using hv)) e he2 with h|⟨ad,rfl,hab⟩
  ·simp at h
  ·exact .inl ⟨ad,rfl,rfl,.inl (by rw[hab];exact⟨hz,by simpa[World.setRow] using hl⟩)⟩
end
section
variable {u:World}{a p:Addr}(es:Array Event)
theorem parts1(b:Nat):(ReflectliteValue.parts (erV1 b)).runT Tryz.prog u es=(.ok (some (103,⟨b,0,none⟩,150)) u,es):=by kernel_rfl
theorem parts2(b:Nat):(ReflectliteValue.parts (erV2 b)).runT Tryz.prog u es=(.ok (some (38,⟨b,0,none⟩,386)) u,es):=by kernel_rfl
theorem parts3(b:Nat):(ReflectliteValue.parts (erV3 b)).runT Tryz.prog u es=(.ok (some (38,⟨b,0,none⟩,130)) u,es):=by kernel_rfl
theorem elemT:(Rtype.elem? 103).runT Tryz.prog u es=(.ok (some 38) u,es):=by kernel_rfl
theorem mkT(b:Nat):(ReflectliteValue.mk 38 ⟨b,0,none⟩ ReflectliteValue.flagAddr).runT Tryz.prog u es=(.ok (erV2 b) u,es):=by kernel_rfl
theorem directT:(Rtype.directlyAssignable 38 38).runT Tryz.prog u es=(.ok true u,es):=by kernel_rfl
theorem isNilT{b:Nat}(hc:u.cell? ⟨b,0,none⟩=some (.pointer (some p))):(ReflectliteValue.method (ReflectliteValue.valueError "reflectlite.Value.IsNil" 0) ReflectliteValue.isNil #[erV1 b]).runT Tryz.prog u es=(.ok (.bool false) u,es.push ⟨.cell ⟨b,0,none⟩,false,false⟩):=by
 rw[ToldW.rlm];refine(aP (parts1 es b)).trans ?_;show(ReflectliteValue.isNil 103 ⟨b,0,none⟩ 150 22).runT Tryz.prog u es=_;unfold ReflectliteValue.isNil;refine(aP (mQ Tryz.underlying103 rfl hc es)).trans ?_;rfl
theorem elemVT{b q:Nat}(hc:u.cell? ⟨b,0,none⟩=some (.pointer (some ⟨q,0,none⟩))):(ReflectliteValue.method (ReflectliteValue.valueError "reflectlite.Value.Elem" 0) ReflectliteValue.elem #[erV1 b]).runT Tryz.prog u es=(.ok (erV2 q) u,es.push ⟨.cell ⟨b,0,none⟩,false,false⟩):=by
 rw[ToldW.rlm];refine(aP (parts1 es b)).trans ?_;show(ReflectliteValue.elem 103 ⟨b,0,none⟩ 150 22).runT Tryz.prog u es=_;unfold ReflectliteValue.elem;refine(aP (mQ Tryz.underlying103 rfl hc es)).trans ?_;refine(aP (elemT _)).trans ?_;exact mkT _ q
theorem setT{b q:Nat}{n:Int}{t:TypeId}{old:Array Value}(hb:u.heap[b]? = some (.cells old t (0,0)))(h1:old.size=1)(hq:u.cell? ⟨q,0,none⟩=some (.int .i64 n)) :
 (ReflectliteValue.set #[erV2 b,erV3 q]).runT Tryz.prog u es=(.ok (.tuple #[]) (u.setRow b (old.setIfInBounds 0 (.int .i64 n))),(es.push ⟨.cell ⟨q,0,none⟩,false,false⟩).push ⟨.cell ⟨b,0,none⟩,true,false⟩):=by
 rw[ToldW.rls];refine(aP (parts2 es b)).trans ?_;refine(aP (parts3 es q)).trans ?_;refine(aP (mQ Tryz.underlying38 rfl hq es)).trans ?_;refine(aP (directT _)).trans ?_;refine(aP (st_cell hb h1 (by kernel_rfl) _)).trans ?_;rfl
end
end Cl
namespace Cl
open Conc Co Ph Go.Extern
structure ErW(w u:World)(l:List Obj):Prop where
 size:u.heap.size=w.heap.size+l.length
 old:∀ x,x<w.heap.size→u.heap[x]? = w.heap[x]?
 new:∀ i o,l[i]? = some o→u.heap[w.heap.size+i]? = some o
 still:u.os=w.os∧u.output=w.output
theorem ErW.refl(w:World):ErW w w []:=⟨rfl,fun _ _=>rfl,fun i o h=>by simp at h,rfl,rfl⟩
theorem ErW.push{w u:World}{l:List Obj}(h:ErW w u l)(o:Obj):ErW w {u with heap:=u.heap.push o} (l++[o]):=by
 refine⟨by simp[h.size];omega,fun x hx=>?_,fun i p hi=>?_,h.still⟩
 ·have:=h.size;simp only[Array.getElem?_push];rw[if_neg (by omega)];exact h.old x hx
 ·have:=h.size;simp only[Array.getElem?_push];rcases Nat.lt_trichotomy i l.length with h1|h1|h1
  ·rw[if_neg (by omega)];rw[List.getElem?_append_left h1]at hi;exact h.new i p hi
  ·subst h1;rw[if_pos (by omega)];simpa using hi
  ·rw[List.getElem?_eq_none (by simp;omega)]at hi;cases hi
theorem ErW.set{w u:World}{l:List Obj}(h:ErW w u l){i:Nat}{old new:Array Value}{t:TypeId}(hi:l[i]? = some (.cells old t (0,0))):ErW w (u.setRow (w.heap.size+i) new) (l.set i (.cells new t (0,0))):=by
 refine⟨by simp[World.setRow,h.size],fun x hx=>?_,fun j p hj=>?_,h.still⟩
 ·simp only[World.setRow,Array.getElem?_modify];rw[if_neg (by omega)];exact h.old x hx
 ·simp only[World.setRow,Array.getElem?_modify];rw[List.getElem?_set]at hj;by_cases hij:i=j
  ·subst hij;rw[if_pos rfl]at hj;rw[if_pos rfl,h.new i _ hi];have hl:i<l.length:=(List.getElem?_eq_some_iff.1 hi).1;rw[if_pos hl]at hj;simpa using hj
  ·rw[if_neg hij]at hj;rw[if_neg (by omega)];exact h.new j p hj
theorem ErW.cell{w u:World}{l:List Obj}(h:ErW w u l){i:Nat}{x:Array Value}{t:TypeId}{fz:Nat×Nat}{v:Value}(hi:l[i]? = some (.cells x t fz))(hx:x[0]? = some v):u.cell? ⟨w.heap.size+i,0,none⟩=some v:=by
 simp[World.cell?,h.new i _ hi,hx]
section
variable {Q:Value→World→Prop}{Z:Nat→Prop}{w:World}{c:Frame}{cs:List Frame}{n k:Int}
theorem wins_nil(hk:Wins Tryz.prog Q Z (G (c.finish (.bool (decide (0=k)))) cs) w):Wins Tryz.prog Q Z (en0 k c cs) w:=by
 refine az 32 (en0_calm k c cs) ?_;rw[en0_it];refine az 4 (enP_calm k c cs) ?_;rw[enP_it];exact hk
theorem wins_err(hg:ToldW.ErrT w)(hgz:¬ Z 0)(hz:∀ x,Z x→x<w.heap.size)
 (hk:∀ w',w.heap.size≤w'.heap.size→(∀x,x<w.heap.size→w'.heap[x]? = w.heap[x]?)→w'.os=w.os∧w'.output=w.output→Wins Tryz.prog Q Z (G (c.finish (.bool (decide (n=k)))) cs) w'):Wins Tryz.prog Q Z (er0 n k c cs) w:=by
 have hnz:∀ i,¬Z (w.heap.size+i):=fun i h=>by have:=hz _ h;omega
 have mk1:∀ f e,e∈(#[⟨.mark (.extern f),false,true⟩]:Array Event)→∃ i,e.loc=.mark (.extern i):=fun f e he=>by
  simp at he;subst he;exact⟨_,rfl⟩
 refine az 22 (er0_calm n k c cs) ?_;show Wins Tryz.prog Q Z (erA n k c cs) _;refine jg (V:=fun h=>.pointer (some ⟨h,0,none⟩)) (erA_at n k c cs) (erA_run n k c cs) (erA_op n k c cs) (fun e he=>by simp at he) ?_;have s1:=(ErW.refl w).push (.cells #[.int .i64 0] 38 (0,0));generalize {w with heap:=w.heap.push (.cells #[.int .i64 0] 38 (0,0))}=u1 at s1⊢;refine az 30 (erA_calm n k c cs w.heap.size) ?_;show Wins Tryz.prog Q Z (erB n k c cs _) _;refine jg (V:=fun h=>erV1 h) (erB_at n k c cs _) (erB_run n k c cs _) (erB_op n k c cs _) (mk1 _) ?_;have e1:u1.heap.size=w.heap.size+1:=s1.size;rw[e1];have s2:=s1.push (.cells #[.pointer (some ⟨w.heap.size,0,none⟩)] 103 (0,0));generalize {u1 with heap:=u1.heap.push (.cells #[.pointer (some ⟨w.heap.size,0,none⟩)] 103 (0,0))}=u2 at s2⊢;show Wins Tryz.prog Q Z (erC n k c cs _ _) _;refine jg (V:=fun h=>.pointer (some ⟨h,0,none⟩)) (erC_at n k c cs _ _) (erC_run n k c cs _ _) (erC_op n k c cs _ _) (fun e he=>by simp at he) ?_;have e2:u2.heap.size=w.heap.size+2:=s2.size;rw[e2];have s3:=s2.push (.cells #[.pointer none,.pointer none,.int .u64 0] 130 (0,0));generalize {u2 with heap:=u2.heap.push (.cells #[.pointer none,.pointer none,.int .u64 0] 130 (0,0))}=u3 at s3⊢;show Wins Tryz.prog Q Z (erD n k c cs _ _ _) _;refine wins_storeRow (erD_at n k c cs _ _ _) (erD_run n k c cs _ _ _) (erD_op n k c cs _ _ _) (erD_x n k c cs _ _ _) (erD_y n k c cs _ _ _) (s3.new 2 _ rfl) (hnz 2) (by kernel_rfl) rfl (by kernel_rfl) ?_;have s4:=s3.set (i:=2) (new:=#[hdl 103,.pointer (some ⟨w.heap.size+1,0,none⟩),.int .u64 150]) rfl;generalize u3.setRow (w.heap.size+2) #[hdl 103,.pointer (some ⟨w.heap.size+1,0,none⟩),.int .u64 150]=u4 at s4⊢;have b4:=s4.new 2 _ rfl;refine az 3 (erD_calm n k c cs _ _ _) ?_;show Wins Tryz.prog Q Z (erE n k c cs _ _ _) _;refine gm (erE_at n k c cs _ _ _) (erE_run n k c cs _ _ _) (erE_op n k c cs _ _ _) (erE_x n k c cs _ _ _) Tryz.underlying130 rfl (by kernel_rfl) b4 (hnz 2) ?_;refine az 10 (erE_calm n k c cs _ _ _) ?_;show Wins Tryz.prog Q Z (erF n k c cs _ _ _) _;refine gm (erF_at n k c cs _ _ _) (erF_run n k c cs _ _ _) (erF_op n k c cs _ _ _) (erF_x n k c cs _ _ _) Tryz.underlying130 rfl (by kernel_rfl) b4 (hnz 2) ?_;have c4:u4.cell? ⟨w.heap.size+1,0,none⟩=some (.pointer (some ⟨w.heap.size,0,none⟩)):=s4.cell (i:=1) rfl rfl;have z4:u4.heap.size=w.heap.size+3:=s4.size;have own:∀ {m:Nat} (i:Nat),w.heap.size+i<m→(fun x=>¬ Z x∧x<m) (w.heap.size+i):=fun i h=>⟨hnz i,h⟩;show Wins Tryz.prog Q Z (erG n k c cs _ _ _) _;refine ku (w':=u4) (v:=.bool false) (erG_at n k c cs _ _ _) (erG_run n k c cs _ _ _) (Nat.le_refl _) (fun τ d=>?_) (fun τ d e hm=>?_) ?_
 ·rw[←Sem.runT_fst _ _ _ #[],erG_op,Sem.runT_bind',isNilT (u:=Co.re u4 τ d) _ c4];rfl
 ·unfold Sem.events at hm;rw[erG_op,Sem.runT_bind',isNilT (u:=Co.re u4 τ d) _ c4]at hm;have hm:e∈(#[⟨.mark (.extern 64),false,true⟩,⟨.cell ⟨w.heap.size+1,0,none⟩,false,false⟩]:Array Event):=hm;simp at hm;rcases hm with rfl|rfl
  ·exact .inr (.inr (.inr ⟨_,rfl⟩))
  ·exact .inl ⟨_,rfl,rfl,.inl (own 1 (by omega))⟩
 refine az 18 (erG_calm n k c cs _ _ _) ?_;have hgl:=hg.lt;show Wins Tryz.prog Q Z (erH n k c cs _ _ _) _;refine wins_load (a:=⟨0,0,none⟩) (v:=rtI 29) (erH_at n k c cs _ _ _) (erH_run n k c cs _ _ _) (erH_op n k c cs _ _ _) (erH_x n k c cs _ _ _) Tryz.underlying133 rfl ?_ hgz ?_
 ·unfold World.cell?;rw[s4.old _ hgl];exact hg
 refine az 10 (erH_calm n k c cs _ _ _) ?_;show Wins Tryz.prog Q Z (erI n k c cs _ _ _) _;refine gm (erI_at n k c cs _ _ _) (erI_run n k c cs _ _ _) (erI_op n k c cs _ _ _) (erI_x n k c cs _ _ _) Tryz.underlying130 rfl (by kernel_rfl) b4 (hnz 2) ?_;refine az 4 (erI_calm n k c cs _ _ _) ?_;show Wins Tryz.prog Q Z (erJ n k c cs _ _ _) _;refine jg (V:=fun h=>.pointer (some ⟨h,0,none⟩)) (erJ_at n k c cs _ _ _) (erJ_run n k c cs _ _ _) (erJ_op n k c cs _ _ _) (fun e he=>by simp at he) ?_;rw[z4];have s5:=s4.push (.cells #[hdl 103,.pointer (some ⟨w.heap.size+1,0,none⟩),.int .u64 150] 130 (0,0));generalize {u4 with heap:=u4.heap.push (.cells #[hdl 103,.pointer (some ⟨w.heap.size+1,0,none⟩),.int .u64 150] 130 (0,0))}=u5 at s5⊢;have z5:u5.heap.size=w.heap.size+4:=s5.size;have c5:u5.cell? ⟨w.heap.size+1,0,none⟩=some (.pointer (some ⟨w.heap.size,0,none⟩)):=s5.cell (i:=1) rfl rfl;refine az 16 (erJ_calm n k c cs _ _ _ _) ?_;show Wins Tryz.prog Q Z (erK n k c cs _ _ _ _) _;refine gm (erK_at n k c cs _ _ _ _) (erK_run n k c cs _ _ _ _) (erK_op n k c cs _ _ _ _) (erK_x n k c cs _ _ _ _) Tryz.underlying130 rfl (by kernel_rfl) (s5.new 3 _ rfl) (hnz 3) ?_;show Wins Tryz.prog Q Z (erL n k c cs _ _ _ _) _;refine ku (w':=u5) (v:=erV2 w.heap.size) (erL_at n k c cs _ _ _ _) (erL_run n k c cs _ _ _ _) (Nat.le_refl _) (fun τ d=>?_) (fun τ d e hm=>?_) ?_
 ·rw[←Sem.runT_fst _ _ _ #[],erL_op,Sem.runT_bind',elemVT (u:=Co.re u5 τ d) _ c5];rfl
 ·unfold Sem.events at hm;rw[erL_op,Sem.runT_bind',elemVT (u:=Co.re u5 τ d) _ c5]at hm;have hm:e∈(#[⟨.mark (.extern 94),false,true⟩,⟨.cell ⟨w.heap.size+1,0,none⟩,false,false⟩]:Array Event):=hm;simp at hm;rcases hm with rfl|rfl
  ·exact .inr (.inr (.inr ⟨_,rfl⟩))
  ·exact .inl ⟨_,rfl,rfl,.inl (own 1 (by omega))⟩
 refine az 1 (erL_calm n k c cs _ _ _ _) ?_;show Wins Tryz.prog Q Z (erM n k c cs _ _ _ _) _;refine jg (V:=fun h=>erV3 h) (erM_at n k c cs _ _ _ _) (erM_run n k c cs _ _ _ _) (erM_op n k c cs _ _ _ _) (mk1 _) ?_;rw[z5];have s6:=s5.push (.cells #[.int .i64 n] 38 (0,0));generalize {u5 with heap:=u5.heap.push (.cells #[.int .i64 n] 38 (0,0))}=u6 at s6⊢;have z6:u6.heap.size=w.heap.size+5:=s6.size;have q6:u6.cell? ⟨w.heap.size+4,0,none⟩=some (.int .i64 n):=s6.cell (i:=4) rfl rfl;have b6:u6.heap[w.heap.size]? = some (.cells #[.int .i64 0] 38 (0,0)):=s6.new 0 _ rfl;show Wins Tryz.prog Q Z (erN n k c cs _ _ _ _ _) _;refine ku (w':=u6.setRow w.heap.size #[.int .i64 n]) (v:=.tuple #[]) (erN_at n k c cs _ _ _ _ _) (erN_run n k c cs _ _ _ _ _) (by simp[World.setRow]) (fun τ d=>?_) (fun τ d e hm=>?_) ?_
 ·rw[←Sem.runT_fst _ _ _ #[],erN_op,Sem.runT_bind',setT (u:=Co.re u6 τ d) _ b6 rfl q6];rfl
 ·unfold Sem.events at hm;rw[erN_op,Sem.runT_bind',setT (u:=Co.re u6 τ d) _ b6 rfl q6]at hm;have hm:e∈(#[⟨.mark (.extern 95),false,true⟩,⟨.cell ⟨w.heap.size+4,0,none⟩,false,false⟩,⟨.cell ⟨w.heap.size,0,none⟩,true,false⟩]:Array Event):=hm;simp at hm;rcases hm with rfl|rfl|rfl
  ·exact .inr (.inr (.inr ⟨_,rfl⟩))
  ·exact .inl ⟨_,rfl,rfl,.inl (own 4 (by simp[World.setRow];omega))⟩
  ·exact .inl ⟨_,rfl,rfl,.inl (own 0 (by simp[World.setRow];omega))⟩
 have s7:=s6.set (i:=0) (new:=#[.int .i64 n]) rfl;rw[Nat.add_zero]at s7;generalize u6.setRow w.heap.size #[.int .i64 n]=u7 at s7⊢;refine az 15 (erN_calm n k c cs _ _ _ _ _) ?_;show Wins Tryz.prog Q Z (erO n k c cs _ _ _ _ _) _;refine wins_load (a:=⟨w.heap.size,0,none⟩) (v:=.int .i64 n) (erO_at n k c cs _ _ _ _ _) (erO_run n k c cs _ _ _ _ _) (erO_op n k c cs _ _ _ _ _) (erO_x n k c cs _ _ _ _ _) Tryz.underlying38 rfl (s7.cell (i:=0) rfl rfl) (hnz 0) ?_;refine az 11 (erO_calm n k c cs _ _ _ _ _) ?_;show Wins Tryz.prog Q Z (it Tryz.prog 11 (fin (erO n k c cs _ _ _ _ _) (.int .i64 n))) _;rw[erO_it];refine az 4 (erP_calm n k c cs _ _ _ _ _) ?_;show Wins Tryz.prog Q Z (it Tryz.prog 4 (erP n k c cs _ _ _ _ _)) _;rw[erP_it];exact hk u7 (by rw[s7.size];omega) s7.old s7.still
end
end Cl
namespace Ph
open Conc Co Cl
section
variable (A:Option Addr)(L cp:Nat)(z:Int)(c:Frame)(cs:List Frame)
end
section
variable {Q:Value→World→Prop}{Z:Bl}{w:World}{A:Option Addr}{L cp:Nat}{z:Int}{c:Frame}{cs:List Frame}
end
end Ph
namespace Cl
open Conc Co Ph RowKit
section
variable {Q:Value→World→Prop}{E:Env}{K Z:Nat→Prop}{W:World}{cs:List Frame}{fn:FuncId}{t:Array Value}{todo k:List Item}{m:FrameMode}{w0 w:World}
theorem winsR_call2{F:FuncId}{ops:Array Oper}{i:Nat}{rest:List Nat}{o:Oper}{x y:Operand}{vx vy r:Value}(hKZ:∀ x,K x→¬ Z x)
 (ho:ops[i]? = some o) (hw:∀ t',Region.wanted o (yielded ops t')=true) (hxo:Co.OkX E x) (hyo:Co.OkX E y)
 (hr:∀ t' w,(execOp (Act.eval ⟨t',[]⟩) o).run Tryz.prog w=.ok (.enter F #[Act.eval ⟨t',[]⟩ x,Act.eval ⟨t',[]⟩ y]) w) (hev:∀ t' w,(execOp (Act.eval ⟨t',[]⟩) o).events Tryz.prog w #[]=#[])
 (hx:Act.eval ⟨t,[]⟩ x=vx) (hy:Act.eval ⟨t,[]⟩ y=vy) (hf:∀ ok f,VR ok f r r)
 (h:∀ f vx' vy' w c,VR E.ok f vx vx'→VR E.ok f vy vy'→Side E K W Z f w→(∀w',w.heap.size≤w'.heap.size→(∀x,x<w.heap.size→w'.heap[x]? = w.heap[x]?)→w'.os=w.os∧w'.output=w.output→Wins Tryz.prog Q Z (G (c.finish r) cs) w')→Wins Tryz.prog Q Z (G (Frame.enter Tryz.prog F #[vx',vy'] .normal) (c::cs)) w)
 (hk:WinsR Tryz.prog Q E K W Z cs fn (Act.put ⟨t,[]⟩ o.dst r).tmps (.inRegion ops rest::k) .run w0):WinsR Tryz.prog Q E K W Z cs fn t (.inRegion ops (i::rest)::k) .run w0:=by
 intro f t' w ha hwr hs;have he:=ev_rel (fr:=(base fn).at ⟨t,[]⟩ (.inRegion ops (i::rest)::k)) (fr':=(base fn).at ⟨t',[]⟩ (.inRegion ops (i::rest)::k)) ha;rw[Frame.eval_at',Frame.eval_at']at he;have h1:=he x hxo;have h2:=he y hyo;rw[hx]at h1;rw[hy]at h2;refine dB rfl fun τ d=>⟨G (Frame.enter Tryz.prog F #[Act.eval ⟨t',[]⟩ x,Act.eval ⟨t',[]⟩ y] .normal) (Co.fr fn t' (.inRegion ops (i::rest)::k) .run::cs),w,d,#[],?_,Nat.le_refl _,fun e he=>by simp at he,?_⟩
 ·have hst:=stepG_enter (P:=Tryz.prog) (main:=true) (b:=base fn) (a:=⟨t',[]⟩) (k:=k) (cs:=cs) (rest:=rest) ho (hw t') (by simp[base]) (hr t' (Co.re w τ d))
  have hls:listed Tryz.prog (base fn).fn ⟨t',[]⟩ o (Co.re w τ d)=#[]:=by
   unfold listed;rw[hev];rfl
  rw[hls]at hst;exact hst
 ·have hfin:∀ v,(Co.fr fn t' (.inRegion ops (i::rest)::k) .run).finish v=Co.fr fn (Act.put ⟨t',[]⟩ o.dst v).tmps (.inRegion ops rest::k) .run:=fun v=>by
   have:=dW (y:=⟨fn,t',.inRegion ops (i::rest)::k,false⟩) (v:=v) rfl;rw[ho]at this;exact this
  refine h f _ _ w _ h1 h2 hs fun w' hsz hold hso=>?_;rw[hfin];have hrel:WR E f (Co.re w0 w'.tape w'.drawn) w':=hwr.rely ⟨hsz,fun y hy hy2=>hold y hy2⟩;refine hk f _ w' (fG ha (hf _ _) _) hrel ⟨fun y hy=>?_,fun y hy=>Nat.lt_of_lt_of_le (hs.low y hy) hsz,hs.own,fun y hy=>Nat.lt_of_lt_of_le (hs.zed y hy) hsz,fun y hy=>⟨Nat.lt_of_lt_of_le (hs.ro y hy).1 hsz,(hs.ro y hy).2⟩,Nat.le_trans hs.size hsz,hso.1.trans hs.still.1,hso.2.trans hs.still.2⟩;rw[hold y (hs.low y hy)];exact hs.old y hy
def IsErr(e:Value)(k:Int)(r:Bool):Prop:=e=.nilIface∧r=decide (0=k)∨∃n,e=.iface 38 (.int .i64 n)∧r=decide (n=k)
theorem err_call{e:Value}{kk:Int}{r:Bool}{f:Fm}{vx' vy':Value}{w:World}{c:Frame}(hl:LawOk E K W)(hKZ:∀ x,K x→¬ Z x)(hg:ToldW.ErrT W)(he:IsErr e kk r)(h1:VR E.ok f e vx')(h2:VR E.ok f (.int .i64 kk) vy')(hs:Side E K W Z f w)
 (hk:∀ w',w.heap.size≤w'.heap.size→(∀x,x<w.heap.size→w'.heap[x]? = w.heap[x]?)→w'.os=w.os∧w'.output=w.output→Wins Tryz.prog Q Z (G (c.finish (.bool r)) cs) w'):Wins Tryz.prog Q Z (G (Frame.enter Tryz.prog 11 #[vx',vy'] .normal) (c::cs)) w:=by
 cases h2;have hK:K 0:=hl.low _ (by decide);rcases he with⟨rfl,rfl⟩|⟨n,rfl,rfl⟩
 ·cases h1;exact wins_nil (hk w (Nat.le_refl _) (fun _ _=>rfl) ⟨rfl,rfl⟩)
 ·cases h1 with
  |iface h3 =>
   cases h3;refine wins_err ?_ (hKZ _ hK) hs.zed hk;unfold ToldW.ErrT World.cell? at hg⊢;rw[hs.old _ hK];exact hg
end
end Cl
