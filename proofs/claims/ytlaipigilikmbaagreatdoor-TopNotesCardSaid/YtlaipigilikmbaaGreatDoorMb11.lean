/- Texts of this seat,put together: WkLaws,WkOps,WkRow,CoJunk,WkCall. -/
import Derived.Test.YtlaipigilikmbaaGreatDoorMb10
import Derived.Conc.AtomicLaws2
import Derived.Conc.MarkLaws
import Derived.Conc.SmallLaws
import Derived.Laws.LoneSync
import Derived.Laws.Tables
import Derived.Laws.Rows
import Derived.Conc.AppendEvents
import Derived.Test.YtlaipigilikmbaaGreatDoorMb7
namespace Go.Proofs.YtlaipigilikmbaaGreatDoor
noncomputable section
set_option linter.unusedVariables false
set_option linter.unusedSimpArgs false
namespace Ph
open Conc Co Cl
structure Entry(P:Program)(f:FuncId)(e:Array Value→Sem Value):Prop where
 fn:∃ fn,P.funcs[f]? = some fn∧(fn.name== "runtime.NumGoroutine")=false∧fn.body.isNone=true∧Extern.findNext fn=none∧Extern.find fn=some e
structure AtCall(g:Goroutine)(f:FuncId)(os:Array Operand):Prop where
 at_:AtOp g
 op:∃ o,(rOps g)[rI g]? = some o∧Region.wanted o (yielded (rOps g) (aOf g).tmps)=true∧∃ ats,o.op=.call {callee:=.value (.func f),args:=os,argTypes:=ats}
 kind:g.frame.kind≠.early
section
variable {P:Program}{main:Bool}{g:Goroutine}{f:FuncId}{x y z:Operand}{os:Array Operand}{w:World}{k:IntKind}{ad:Addr}
theorem AtOp.step{r:GStep}(h:AtOp g)(hs:stepG P main (G (g.frame.at (aOf g) (.inRegion (rOps g) (rI g::rRest g)::rK g)) g.callers) w=r):stepG P main g w=r:=by
 unfold AtOp at h;rw[h];exact hs
theorem step_add(h:AtCall g f #[x,y])(he:Entry P f (Extern.Atomic.update (Op.intArith .add) k true)){v d:Int}(hx:(aOf g).eval x=.pointer (some ad))(hy:(aOf g).eval y=.int k d)(hc:w.cell? ad=some (.int k v))(hz:w.frozen? ad=false) :
 stepG P main g w=.go (fin g (.int k (k.wrap (v+d)))) (w.setCell ad (.int k (k.wrap (v+d)))) #[⟨.cell ad,false,true⟩,⟨.cell ad,true,true⟩]:=by
 obtain⟨h1,⟨o,h2,h3,ats,h4⟩,h5⟩:=h;obtain⟨fn,f1,f2,f3,f4,f5⟩:=he;rw[←fZ h1 h2];exact h1.step (stepG_add_atomic h2 h3 h5 h4 f1 f2 f3 f4 k f5 hx hy hc hz)
theorem oh(h:AtCall g f #[x])(he:Entry P f (Extern.Atomic.loadT (.int k))){v:Int}(hx:(aOf g).eval x=.pointer (some ad))(hc:w.cell? ad=some (.int k v)) :
 stepG P main g w=.go (fin g (.int k v)) w #[⟨.cell ad,false,true⟩]:=by
 obtain⟨h1,⟨o,h2,h3,ats,h4⟩,h5⟩:=h;obtain⟨fn,f1,f2,f3,f4,f5⟩:=he;rw[←fZ h1 h2];exact h1.step (stepG_load_atomic h2 h3 h5 h4 f1 f2 f3 f4 k f5 hx hc)
theorem step_store(h:AtCall g f #[x,y])(he:Entry P f Extern.Atomic.storeT){v:Int}{u:Value}(hx:(aOf g).eval x=.pointer (some ad))(hy:(aOf g).eval y=.int k v)(hc:w.cell? ad=some u)(hz:w.frozen? ad=false) :
 stepG P main g w=.go (fin g (.tuple #[])) (w.setCell ad (.int k v)) #[⟨.cell ad,true,true⟩]:=by
 obtain⟨h1,⟨o,h2,h3,ats,h4⟩,h5⟩:=h;obtain⟨fn,f1,f2,f3,f4,f5⟩:=he;rw[←fZ h1 h2];exact h1.step (stepG_store_atomic h2 h3 h5 h4 f1 f2 f3 f4 f5 hx hy hc hz)
theorem step_cas_hit(h:AtCall g f #[x,y,z])(he:Entry P f (Extern.Atomic.casT (.int k))){v n:Int}(hx:(aOf g).eval x=.pointer (some ad))(hy:(aOf g).eval y=.int k v)(hzz:(aOf g).eval z=.int k n)(hc:w.cell? ad=some (.int k v))(hz:w.frozen? ad=false) :
 stepG P main g w=.go (fin g (.bool true)) (w.setCell ad (.int k n)) #[⟨.cell ad,false,true⟩,⟨.cell ad,true,true⟩]:=by
 obtain⟨h1,⟨o,h2,h3,ats,h4⟩,h5⟩:=h;obtain⟨fn,f1,f2,f3,f4,f5⟩:=he;rw[←fZ h1 h2];exact h1.step (stepG_cas_hit h2 h3 h5 h4 f1 f2 f3 f4 k f5 hx hy hzz hc hz)
theorem step_cas_miss(h:AtCall g f #[x,y,z])(he:Entry P f (Extern.Atomic.casT (.int k))){v old n:Int}(hx:(aOf g).eval x=.pointer (some ad))(hy:(aOf g).eval y=.int k old)(hzz:(aOf g).eval z=.int k n)(hc:w.cell? ad=some (.int k v))(hz:w.frozen? ad=false)(hne:¬ v=old) :
 stepG P main g w=.go (fin g (.bool false)) w #[⟨.cell ad,false,true⟩]:=by
 obtain⟨h1,⟨o,h2,h3,ats,h4⟩,h5⟩:=h;obtain⟨fn,f1,f2,f3,f4,f5⟩:=he;rw[←fZ h1 h2];exact h1.step (stepG_cas_miss h2 h3 h5 h4 f1 f2 f3 f4 k f5 hx hy hzz hc hz hne)
theorem jv(m:Mark)(hm:∀ g,m≠.extern g)(h:AtCall g f os)(he:Entry P f (fun _=>do Go.mark m;Pure.pure Extern.Race.none_)):stepG P main g w=.go (fin g (.tuple #[])) w #[Ph.mk m]:=by
 obtain⟨h1,⟨o,h2,h3,ats,h4⟩,h5⟩:=h;obtain⟨fn,f1,f2,f3,f4,f5⟩:=he;rw[←fZ h1 h2];exact h1.step (stepG_mark0 m hm h2 h3 h5 h4 f1 f2 f3 f4 f5)
theorem iK(mk:Addr→Mark)(hm:∀ ad g,mk ad≠.extern g)(h:AtCall g f os)(he:Entry P f (Extern.Race.marked mk))(hx:(os.map (aOf g).eval)[0]? = some (.pointer (some ad))):stepG P main g w=.go (fin g (.tuple #[])) w #[Ph.mk (mk ad)]:=by
 obtain⟨h1,⟨o,h2,h3,ats,h4⟩,h5⟩:=h;obtain⟨fn,f1,f2,f3,f4,f5⟩:=he;rw[←fZ h1 h2];exact h1.step (stepG_markAt mk hm h2 h3 h5 h4 f1 f2 f3 f4 f5 hx)
theorem step_semacquire(h:AtCall g f os)(he:Entry P f Extern.Sync.semacquire){n:Int}(hx:(os.map (aOf g).eval)[0]? = some (.pointer (some ad)))(hc:w.cell? ad=some (.int .u32 n))(hn0:n≠0)(hz:w.frozen? ad=false) :
 stepG P main g w=.go (fin g (.tuple #[])) (w.setCell ad (.int .u32 (n-1))) (semEvents ad):=by
 obtain⟨h1,⟨o,h2,h3,ats,h4⟩,h5⟩:=h;obtain⟨fn,f1,f2,f3,f4,f5⟩:=he;rw[←fZ h1 h2];exact h1.step (stepG_semacquire h2 h3 h5 h4 f1 f2 f3 f4 f5 hx hc hn0 hz)
theorem step_semwait(h:AtCall g f os)(he:Entry P f Extern.Sync.semacquire)(hx:(os.map (aOf g).eval)[0]? = some (.pointer (some ad)))(hc:w.cell? ad=some (.int .u32 0)) :
 stepG P main g w=.go {g with status:=.blocked} w #[]:=by
 obtain⟨h1,⟨o,h2,h3,ats,h4⟩,h5⟩:=h;obtain⟨fn,f1,f2,f3,f4,f5⟩:=he;have:=stepG_semacquire_wait (P:=P) (main:=main) (b:=g.frame) (a:=aOf g) (kk:=rK g) (cs:=g.callers) (rest:=rRest g) h2 h3 h4 f1 f2 f3 f4 f5 hx hc;unfold AtOp at h1;rw[←h1]at this;exact this
theorem step_semrelease(h:AtCall g f os)(he:Entry P f Extern.Sync.semrelease){n:Int}(hx:(os.map (aOf g).eval)[0]? = some (.pointer (some ad)))(hc:w.cell? ad=some (.int .u32 n))(hz:w.frozen? ad=false) :
 stepG P main g w=.go (fin g (.tuple #[])) (w.setCell ad (.int .u32 (IntKind.u32.wrap (n+1)))) (semEvents ad):=by
 obtain⟨h1,⟨o,h2,h3,ats,h4⟩,h5⟩:=h;obtain⟨fn,f1,f2,f3,f4,f5⟩:=he;rw[←fZ h1 h2];exact h1.step (stepG_semrelease h2 h3 h5 h4 f1 f2 f3 f4 f5 hx hc hz)
end
theorem e_addI64:Entry Tryz.prog 79 (Extern.Atomic.update (Op.intArith .add) .i64 true):=⟨fnAt 79,by kernel_rfl,by kernel_rfl,by kernel_rfl,by kernel_rfl,by kernel_rfl⟩
theorem e_addU64:Entry Tryz.prog 97 (Extern.Atomic.update (Op.intArith .add) .u64 true):=⟨fnAt 97,by kernel_rfl,by kernel_rfl,by kernel_rfl,by kernel_rfl,by kernel_rfl⟩
theorem nS:Entry Tryz.prog 98 (Extern.Atomic.loadT (.int .u64)):=⟨fnAt 98,by kernel_rfl,by kernel_rfl,by kernel_rfl,by kernel_rfl,by kernel_rfl⟩
theorem e_storeU64:Entry Tryz.prog 99 Extern.Atomic.storeT:=⟨fnAt 99,by kernel_rfl,by kernel_rfl,by kernel_rfl,by kernel_rfl,by kernel_rfl⟩
theorem e_casU64:Entry Tryz.prog 103 (Extern.Atomic.casT (.int .u64)):=⟨fnAt 103,by kernel_rfl,by kernel_rfl,by kernel_rfl,by kernel_rfl,by kernel_rfl⟩
theorem nU:Entry Tryz.prog 67 (fun _=>do Go.mark .disable;Pure.pure Extern.Race.none_):=⟨fnAt 67,by kernel_rfl,by kernel_rfl,by kernel_rfl,by kernel_rfl,by kernel_rfl⟩
theorem e_enable:Entry Tryz.prog 68 (fun _=>do Go.mark .enable;Pure.pure Extern.Race.none_):=⟨fnAt 68,by kernel_rfl,by kernel_rfl,by kernel_rfl,by kernel_rfl,by kernel_rfl⟩
theorem e_relMerge:Entry Tryz.prog 66 (Extern.Race.marked .releaseMerge):=⟨fnAt 66,by kernel_rfl,by kernel_rfl,by kernel_rfl,by kernel_rfl,by kernel_rfl⟩
theorem e_acquire:Entry Tryz.prog 84 (Extern.Race.marked .acquire):=⟨fnAt 84,by kernel_rfl,by kernel_rfl,by kernel_rfl,by kernel_rfl,by kernel_rfl⟩
theorem e_raceRead:Entry Tryz.prog 74 (Extern.Race.marked .read):=⟨fnAt 74,by kernel_rfl,by kernel_rfl,by kernel_rfl,by kernel_rfl,by kernel_rfl⟩
theorem e_raceWrite:Entry Tryz.prog 87 (Extern.Race.marked .write):=⟨fnAt 87,by kernel_rfl,by kernel_rfl,by kernel_rfl,by kernel_rfl,by kernel_rfl⟩
theorem lU:Entry Tryz.prog 88 Extern.Sync.semacquire:=⟨fnAt 88,by kernel_rfl,by kernel_rfl,by kernel_rfl,by kernel_rfl,by kernel_rfl⟩
theorem e_semrelease:Entry Tryz.prog 78 Extern.Sync.semrelease:=⟨fnAt 78,by kernel_rfl,by kernel_rfl,by kernel_rfl,by kernel_rfl,by kernel_rfl⟩
end Ph
namespace Ph
open Conc Co Cl
structure AtO(g:Goroutine)(o:Oper):Prop where
 at_:AtOp g
 op:(rOps g)[rI g]? = some o
 want:Region.wanted o (yielded (rOps g) (aOf g).tmps)=true
 kind:g.frame.kind≠.early
def oOf(g:Goroutine):Oper:=((rOps g)[rI g]?).getD default
section
variable {P:Program}{main:Bool}{g:Goroutine}{o:Oper}{w w':World}{v:Value}
theorem step_value(h:AtO g o)(hr:(execOp (aOf g).eval o).run P w=.ok (.value v) w'):stepG P main g w=.go (fin g v) w' (listed P g.frame.fn (aOf g) o w):=by
 rw[←fZ h.at_ h.op];exact h.at_.step (stepG_value h.op h.want h.kind hr)
end
section
variable {X:Cx}{main:Bool}{D:Array Event→Prop}{Stop:Bl→Goroutine→World→Prop}{own:Bl}{w:World}{g:Goroutine}{o:Oper}{v:Value}{a:Addr}
theorem Gl.load(h:AtO g o)(hs:g.status=.running)(hrt:∀ w₁:World,(execOp (aOf g).eval o).runT X.P w₁ #[]=match w₁.cell? a with
 |some v=>(.ok (.value v) w₁,#[⟨.cell a,false,false⟩])
 |none=>(match w₁.farLoad X.P a false with
  |.ok (v,l)=>(.ok (.value v) w₁,#[]++l.toArray.map (⟨.cell ·,false,false⟩))
  |.error h=>(.halt h w₁,#[]))) (hc:∀ w₁,RR X own w w₁→w₁.cell? a=some v) (ho:own a.block∨X.Y.ro a.block) (hn:Gl X main dT Stop own (fin g v) w):Gl X main dT Stop own g w:=by
 refine Gl.still hs (fun w₁ h₁ _=>?_) hn;obtain⟨k1,k2⟩:=load_step (t:=0) (hc w₁ h₁) (hrt w₁);refine⟨_,step_value h k1,trivial,fun e he=>?_⟩;have:=mem_seen he;rw[k2]at this;simp at this;subst this;exact .inl ⟨a,rfl,rfl,ho.imp id fun h=>⟨h,rfl⟩⟩
theorem aF{own:Bl}(hc:w.cell? a=some v)(ho:own a.block∨X.Y.ro a.block):∀ w₁,RR X own w w₁→w₁.cell? a=some v:=by
 intro w₁ h₁
 have hl:a.block<w.heap.size:=by
  unfold World.cell? at hc
  cases hh:w.heap[a.block]? with
  |none=>simp[hh]at hc
  |some o=>exact(Array.getElem?_eq_some_iff.1 hh).1
 have:=h₁.rel.keep a.block ho hl;unfold World.cell? at hc⊢;rw[this];exact hc
theorem Gl.conv{src dst t:TypeId}{x:Operand}(hD:D #[])(h:AtO g o)(hs:g.status=.running)(hop:o.op=.convert src dst x)(hx:(aOf g).eval x=.pointer (some a))(h1:X.P.underlying src=some (.pointer t))(h2:X.P.underlying dst=some .unsafePointer)(h3:(X.P.info? t).map (fun i=>decide (i.size=0))=some false)
 (hc:∀ w₁,Live X w₁→∃ v,w₁.cell? a=some v) (hn:Gl X main D Stop own (fin g (.pointer (some a))) w):Gl X main D Stop own g w:=by
 refine Gl.still hs (fun w₁ _ hl=>?_) hn;obtain⟨v,hv⟩:=hc w₁ hl
 have e:execOp (aOf g).eval o=(do Pure.pure (Next.value (←convert src dst (.pointer (some a))))):=by
  unfold execOp;simp only[hop,hx]
 have er:(execOp (aOf g).eval o).run X.P w₁=.ok (.value (.pointer (some a))) w₁:=by
  rw[e];simp[run_convert_to_unsafe h1 h2 h3 hv,Result.andThen]
 have ee:(execOp (aOf g).eval o).events X.P w₁ #[]=#[]:=by
  rw[e];simp[events_convert_to_unsafe h1 h2 h3 hv]
 have hstep:=step_value (main:=main) h er
 have hl2:listed X.P g.frame.fn (aOf g) o w₁=#[]:=by
  unfold listed;rw[ee];rfl
 rw[hl2]at hstep;exact⟨#[],hstep,hD,fun e he=>by simp at he⟩
end
end Ph
namespace Ph
open Conc Co Cl
section
variable {P:Program}{w:World}
theorem dN(g o:Nat)(t:TypeId):∀ (vs:List Value) (i:Nat) (cur:Array Value) (w:World) (es:Array Event),w.heap[g]? = some (.cells cur t (0,0))→o+i+vs.length≤cur.size→(∀v∈vs,v.oneCell'=true) →
 ∀ev∈(storeCells ⟨g,o,none⟩ vs i).events P w es,ev∈es∨∃ad,ev=⟨.cell ad,true,false⟩∧ad.block=g
 |[],_,_,_,_,_,_,_=>fun ev h=>.inl (by simpa[storeCells] using h)
 |v::rest,i,cur,w,es,hg,hl,h1=>fun ev h=>by
  have hi:o+i<cur.size:=by simp at hl;omega
  have hadd:(⟨g,o,none⟩:Addr).add i=⟨g,o+i,none⟩:=by unfold Addr.add;split<;>simp_all
  have hcell:w.cell? ⟨g,o+i,none⟩=some cur[o+i]:=by simp[World.cell?,hg,hi]
  have hfro:w.frozen? ⟨g,o+i,none⟩=false:=by simp[World.frozen?,hg]
  have hst:(store ((⟨g,o,none⟩:Addr).add i) v).run P w=.ok () (w.setRow g (cur.setIfInBounds (o+i) v)):=by
   rw[hadd,run_store P w _ v _ (h1 v (by simp)),hcell];simp[hfro,setCell_eq_setRow w g (o+i) cur t (0,0) v hg]
  have hev:(store ((⟨g,o,none⟩:Addr).add i) v).events P w es=es.push ⟨.cell ⟨g,o+i,none⟩,true,false⟩:=by
   rw[hadd,events_store P w es _ v _ (h1 v (by simp)),hcell];simp only[hfro,Bool.false_eq_true,if_false];rfl
  simp only[storeCells,Sem.events_bind,hst,Result.evThen_ok,hev]at h;rcases dN g o t rest (i+1) (cur.setIfInBounds (o+i) v) (w.setRow g (cur.setIfInBounds (o+i) v)) _ (setRow_heap w g cur _ t _ hg) (by simp at hl⊢;omega) (fun x hx=>h1 x (by simp[hx])) ev h with h|h
  ·rcases Array.mem_push.1 h with h|rfl
   ·exact .inl h
   ·exact .inr ⟨_,rfl,rfl⟩
  ·exact .inr h
theorem gG(g:Nat):∀ (n i:Nat) (o:Nat) (acc:Array Value) (w:World) (es:Array Event),(∃c t fz,w.heap[g]? = some (.cells c t fz))→∀ ev∈(loadCellsFrom ⟨g,o,none⟩ i n acc).events P w es,ev∈es∨∃ad,ev=⟨.cell ad,false,false⟩∧ad.block=g
 |0,_,_,_,_,_,_=>fun ev h=>.inl (by simpa[loadCellsFrom] using h)
 |n+1,i,o,acc,w,es,hg=>fun ev h=>by
  have hadd:(⟨g,o,none⟩:Addr).add i=⟨g,o+i,none⟩:=by unfold Addr.add;split<;>simp_all
  simp only[loadCellsFrom,Sem.events_bind,hadd]at h
  have key:(∃v,(load ⟨g,o+i,none⟩).run P w=.ok v w∧(load ⟨g,o+i,none⟩).events P w es=es.push ⟨.cell ⟨g,o+i,none⟩,false,false⟩)∨∃hh w',(load ⟨g,o+i,none⟩).run P w=.halt hh w'∧(load ⟨g,o+i,none⟩).events P w es=es:=by
   obtain⟨c,t,fz,hg⟩:=hg
   cases hc:w.cell? ⟨g,o+i,none⟩ with
   |some v =>
    left;refine⟨v,?_,?_⟩
    ·simp only[Go.load,Sem.run,hc]
    ·unfold Sem.events;simp only[Go.load,Sem.runT,hc];rfl
   |none =>
    right
    have hf:∃ hh,w.farLoad P ⟨g,o+i,none⟩ false=.error hh:=by
     unfold World.farLoad;simp only[hg];exact⟨_,rfl⟩
    obtain⟨hh,hf⟩:=hf;refine⟨hh,w,?_,?_⟩
    ·simp only[Go.load,Sem.run,hc];rw[show(Mode.plain==Mode.atomic)=false from rfl,hf]
    ·unfold Sem.events;simp only[Go.load,Sem.runT,hc];rw[show(Mode.plain==Mode.atomic)=false from rfl,hf]
  rcases key with⟨v,k1,k2⟩|⟨hh,w',k1,k2⟩
  ·rw[k1,k2]at h;rcases gG g n (i+1) o (acc.push v) w _ hg ev h with h|h
   ·rcases Array.mem_push.1 h with h|rfl
    ·exact .inl h
    ·exact .inr ⟨_,rfl,rfl⟩
   ·exact .inr h
  ·rw[k1,k2]at h;exact .inl h
end
section
variable {P:Program}{main:Bool}{g:Goroutine}{o:Oper}{w w':World}{v:Value}
theorem step_skip(h:AtO g o)(hr:(execOp (aOf g).eval o).run P w=.ok .skip w'):stepG P main g w=.go (fin g undef) w' (listed P g.frame.fn (aOf g) o w):=by
 rw[←fZ h.at_ h.op];exact h.at_.step (stepG_none h.op h.want h.kind hr)
end
section
variable {X:Cx}{main:Bool}{Stop:Bl→Goroutine→World→Prop}{own:Bl}{w:World}{g:Goroutine}{o:Oper}
theorem Gl.alloc(h:AtO g o)(hs:g.status=.running){ob:Obj}(hr:∀ w₁:World,(execOp (aOf g).eval o).runT X.P w₁ #[]=(.ok (.value (.pointer (some ⟨w₁.heap.size,0,none⟩))) {w₁ with heap:=w₁.heap.push ob},#[]))
 (hn:∀ w₁,RR X own w w₁→Live X w₁→Gl X main dT Stop (ownAdd own w₁.heap.size) (fin g (.pointer (some ⟨w₁.heap.size,0,none⟩))) {w₁ with heap:=w₁.heap.push ob}):Gl X main dT Stop own g w:=by
 refine Gl.step hs fun w₁ h₁ hl=>?_
 have hrun:(execOp (aOf g).eval o).run X.P w₁=.ok (.value (.pointer (some ⟨w₁.heap.size,0,none⟩))) {w₁ with heap:=w₁.heap.push ob}:=by rw[←Sem.runT_fst X.P _ w₁ #[],hr]
 refine⟨_,_,_,_,step_value h hrun,⟨by simp,fun y hy _=>?_,fun y h=>.inl h,fun y h=>?_,rfl,rfl,rfl,fun e hm=>?_,fun hl y h=>?_⟩,trivial,hn w₁ h₁ hl⟩
 ·simp only[Array.getElem?_push];rw[if_neg (by omega)]
 ·rcases h with h|h
  ·exact .inl h
  ·exact .inr (by omega)
 ·have:=mem_seen hm;unfold Sem.events at this;rw[hr]at this;simp at this
 ·rcases h with h|h
  ·have:=hl y h;simp;omega
  ·simp;omega
theorem Gl.store{ty t:TypeId}{x y:Operand}{b:Nat}{old new:Array Value}(h:AtO g o)(hs:g.status=.running)(hop:o.op=.store ty x y)(hx:(aOf g).eval x=.pointer (some ⟨b,0,none⟩))(hy:(aOf g).eval y=.agg new)(hb:w.heap[b]? = some (.cells old t (0,0)))(ho:own b)
 (hi:(X.P.info? ty).map (·.size)=some new.size) (hsz:old.size=new.size) (h1:new.all (·.oneCell')=true)
 (hn:∀ w₁,RR X own w w₁→Live X w₁→Gl X main dT Stop own (fin g undef) (w₁.setRow b new)):Gl X main dT Stop own g w:=by
 refine Gl.step hs fun w₁ h₁ hl=>?_
 have hb1:w₁.heap[b]? = some (.cells old t (0,0)):=by
  rw[h₁.rel.keep b (.inl ho) (Array.getElem?_eq_some_iff.1 hb).1];exact hb
 have hst:=run_storeVar_row (P:=X.P) w₁ b t ty old new hb1 hi hsz h1
 have hex:execOp (aOf g).eval o=(do storeVar ty ⟨b,0,none⟩ (.agg new);Pure.pure Next.skip):=by
  unfold execOp;simp only[hop,hx,hy];rfl
 have hrun:(execOp (aOf g).eval o).run X.P w₁=.ok .skip (w₁.setRow b new):=by
  rw[hex,Sem.run_bind,hst,Result.andThen_ok];rfl
 have hev:∀ e∈(execOp (aOf g).eval o).events X.P w₁ #[],∃ad,e=⟨.cell ad,true,false⟩∧ad.block=b:=by
  intro e he;rw[hex,Sem.events_bind,hst,Result.evThen_ok]at he;have he2:e∈(Go.storeVar ty ⟨b,0,none⟩ (.agg new)).events X.P w₁ #[]:=he
  cases hq:X.P.info? ty with
  |none=>rw[hq]at hi;cases hi
  |some i =>
   have hs2:new.size=i.size:=by simp[hq]at hi;omega
   have hz:(Go.storeVar ty ⟨b,0,none⟩ (.agg new)).events X.P w₁ #[]=(storeCells ⟨b,0,none⟩ new.toList 0).events X.P w₁ #[]:=by
    have hqt:Qt X.P (sizeOf ty) i.size:=by
     unfold sizeOf;refine Qt.bind (a:=i) ?_ (.pure _);unfold typeInfo;refine Qt.program.bind ?_;rw[hq];exact .pure _
    have e1:(sizeOf ty).run X.P w₁=.ok i.size w₁:=by rw[←Sem.runT_fst X.P _ w₁ #[],hqt]
    have e2:(sizeOf ty).events X.P w₁ #[]=#[]:=by unfold Sem.events;rw[hqt]
    unfold Go.storeVar;rw[Sem.events_bind,e1,Result.evThen_ok,e2];simp[Value.cells,hs2]
   rw[hz]at he2;rcases dN b 0 t new.toList 0 old w₁ #[] hb1 (by simp;omega) (fun v hv=>(Array.all_eq_true_iff_forall_mem.1 h1) v (by simpa using hv)) e he2 with h|h
   ·simp at h
   ·exact h
 refine⟨own,_,_,_,step_skip h hrun,⟨?_,fun y hy hno=>?_,fun y h=>h,fun y h=>.inl h,rfl,rfl,rfl,fun e hm=>?_,fun hl y h=>?_⟩,trivial,hn w₁ h₁ hl⟩
 ·simp[World.setRow]
 ·have hyb:b≠y:=fun e=>hno (e▸ho);simp only[World.setRow,Array.getElem?_modify];rw[if_neg hyb]
 ·obtain⟨ad,rfl,hab⟩:=hev e (mem_seen hm)
  exact .inl ⟨ad,rfl,rfl,.inl (by rw[hab];exact ho)⟩
 ·simpa[World.setRow] using hl y h
theorem Gl.loadRow{ty t:TypeId}{x:Operand}{b:Nat}{cs:Array Value}{fz:Nat×Nat}{d:TypeDesc}(h:AtO g o)(hs:g.status=.running)(hop:o.op=.load ty x)(hx:(aOf g).eval x=.pointer (some ⟨b,0,none⟩))(hb:w.heap[b]? = some (.cells cs t fz))(ho:own b∨X.Y.ro b)
 (hd:(match d with|.struct _|.array _ _=>true|_=>false)=true) (hu:X.P.underlying ty=some d) (hi:(X.P.info? ty).map (·.size)=some cs.size)
 (hn:Gl X main dT Stop own (fin g (.agg cs)) w):Gl X main dT Stop own g w:=by
 refine Gl.still hs (fun w₁ h₁ hl=>?_) hn
 have hb1:w₁.heap[b]? = some (.cells cs t fz):=by
  rw[h₁.rel.keep b ho (Array.getElem?_eq_some_iff.1 hb).1];exact hb
 have hld:=run_loadVar_row (P:=X.P) w₁ b t ty cs fz d hb1 hu (by cases d<;>first|rfl|cases hd) hi
 have hex:execOp (aOf g).eval o=(do Pure.pure (Next.value (←loadVar ty ⟨b,0,none⟩))):=by
  unfold execOp;simp only[hop,hx];rfl
 have hrun:(execOp (aOf g).eval o).run X.P w₁=.ok (.value (.agg cs)) w₁:=by
  rw[hex,Sem.run_bind,hld,Result.andThen_ok];rfl
 refine⟨_,step_value h hrun,trivial,fun e hm=>?_⟩;have he:=mem_seen hm;rw[hex,Sem.events_bind,hld,Result.evThen_ok]at he;have he2:e∈(loadVar ty ⟨b,0,none⟩).events X.P w₁ #[]:=he
 have hag:(isAgg ty).run X.P w₁=.ok true w₁∧(isAgg ty).events X.P w₁ #[]=#[]:=by
  have hq:Qt X.P (isAgg ty) true:=by
   unfold isAgg;refine(Qt.under hu).bind ?_
   cases d<;>first|exact .pure _|cases hd
  exact⟨by rw[←Sem.runT_fst X.P _ w₁ #[],hq],by unfold Sem.events;rw[hq]⟩
 cases hq:X.P.info? ty with
 |none=>rw[hq]at hi;cases hi
 |some i =>
  have hs2:i.size=cs.size:=by simpa[hq] using hi
  have hsz:(sizeOf ty).run X.P w₁=.ok i.size w₁∧(sizeOf ty).events X.P w₁ #[]=#[]:=by
   have hqt:Qt X.P (sizeOf ty) i.size:=by
    unfold sizeOf;refine Qt.bind (a:=i) ?_ (.pure _);unfold typeInfo;refine Qt.program.bind ?_;rw[hq];exact .pure _
   exact⟨by rw[←Sem.runT_fst X.P _ w₁ #[],hqt],by unfold Sem.events;rw[hqt]⟩
  unfold loadVar at he2;rw[Sem.events_bind,hag.1,hag.2,Result.evThen_ok]at he2;simp only[if_true]at he2;rw[Sem.events_bind,hsz.1,hsz.2,Result.evThen_ok,Sem.events_bind]at he2
  have he3:e∈(loadCells ⟨b,0,none⟩ i.size).events X.P w₁ #[]:=by
   revert he2
   cases (loadCells ⟨b,0,none⟩ i.size).run X.P w₁ with
   |ok a w2=>exact fun h=>h
   |halt a w2=>exact fun h=>h
  rcases gG b _ 0 0 #[] w₁ #[] ⟨cs,t,fz,hb1⟩ e he3 with h|⟨ad,rfl,hab⟩
  ·simp at h
  ·exact .inl ⟨ad,rfl,rfl,by rw[hab];exact ho.imp id fun h=>⟨h,rfl⟩⟩
end
section
variable {P:Program}
theorem gJ{t:TypeId}{n:Nat}(h:(P.info? t).map (·.size)=some n):Qt P (Go.sizeOf t) n:=by
 cases hi:P.info? t with
 |none=>rw[hi]at h;cases h
 |some i =>
  rw[hi]at h;simp only[Option.map_some,Option.some.injEq]at h;subst h;unfold Go.sizeOf;refine Qt.bind (a:=i) ?_ (.pure _);unfold typeInfo;refine Qt.program.bind ?_;rw[hi];exact .pure _
theorem qt_indexAt{t e:TypeId}{b off L cp k s:Nat}{kk:IntKind}(ht:P.underlying t=some (.slice e))(hs:(P.info? e).map (·.size)=some s)(hk:k<L):Qt P (Instr.indexAt t (.slice (some ⟨b,off,none⟩) L cp) (.int kk (k:Int))) (.pointer (some ⟨b,off+k*s,none⟩)):=by
 unfold Instr.indexAt;refine Qt.bind (a:=(kk,(k:Int))) (.pure _) ?_
 dsimp only
 refine(Qt.under ht).bind ?_
 dsimp only
 refine Qt.bind (a:=(some ⟨b,off,none⟩,L,e)) (.pure _) ?_
 dsimp only
 refine(Qt.under ht).bind ?_
 dsimp only
 rw[if_pos ⟨by omega,by omega⟩];refine(gJ hs).bind ?_
 have e1:(⟨b,off,none⟩:Addr).add ((k:Int).toNat*s)=⟨b,off+k*s,none⟩:=by
  rw[Int.toNat_natCast];unfold Addr.add;split
  ·rename_i h;rw[h];rfl
  ·rfl
 rw[e1];exact .pure _
end
section
variable {X:Cx}{main:Bool}{D:Array Event→Prop}{Stop:Bl→Goroutine→World→Prop}{own:Bl}{w:World}{g:Goroutine}{o:Oper}{v:Value}
theorem Gl.quiet(hD:D #[])(h:AtO g o)(hs:g.status=.running)(hq:Qt X.P (execOp (aOf g).eval o) (.value v))(hn:Gl X main D Stop own (fin g v) w):Gl X main D Stop own g w:=by
 refine Gl.still hs (fun w₁ h₁ _=>?_) hn
 have hrun:(execOp (aOf g).eval o).run X.P w₁=.ok (.value v) w₁:=by rw[←Sem.runT_fst X.P _ w₁ #[],hq]
 have hst:=step_value (main:=main) h hrun
 have he:listed X.P g.frame.fn (aOf g) o w₁=#[]:=by
  unfold listed Sem.events;rw[hq];rfl
 rw[he]at hst;exact⟨#[],hst,hD,fun e he=>by simp at he⟩
end
end Ph
namespace Co
open Conc
theorem lW:∀ (n:Nat) (v:Value),SizeOf.sizeOf v≤n→∃ u,∀ok f,VR ok f u v
 |0,v,h=>by cases v<;>simp at h
 |n+1,v,h=>by
  have each:∀ x:Array Value,SizeOf.sizeOf x≤n→∃ y:Array Value,y.size=x.size∧∀ (i:Nat) u u',y[i]? = some u→x[i]? = some u'→∀ ok f,VR ok f u u':=by
   intro x hx
   have h1:∀ i:Fin x.size,∃u,∀ok f,VR ok f u x[i]:=fun i=>lW n x[i] (by
    have:=Array.sizeOf_getElem x i.1 i.2;show SizeOf.sizeOf x[i.1]≤n
    omega)
   obtain⟨y,hy⟩:=Classical.axiomOfChoice h1;refine⟨Array.ofFn y,by simp,fun i u u' a b=>?_⟩;obtain⟨hi,rfl⟩:=Array.getElem?_eq_some_iff.1 b
   have hi2:i<(Array.ofFn y).size:=by simpa using hi
   rw[Array.getElem?_eq_getElem hi2]at a;cases a;simpa using hy ⟨i,hi⟩
  cases v with
  |agg x =>
   obtain⟨y,h1,h2⟩:=each x (by simp at h;omega);exact⟨.agg y,fun ok f=>.agg h1 fun i u u' a b=>h2 i u u' a b ok f⟩
  |tuple x =>
   obtain⟨y,h1,h2⟩:=each x (by simp at h;omega);exact⟨.tuple y,fun ok f=>.tuple h1 fun i u u' a b=>h2 i u u' a b ok f⟩
  |bool b=>exact⟨.bool b,fun _ _=>.bool b⟩
  |_=>exact⟨.tuple #[],fun _ _=>.wild ⟨(fun _ h=>by cases h),(fun _ h=>by cases h),(fun _ h=>by cases h)⟩⟩
theorem row_ex{ok:FuncId→Bool}{f:Fm}(c':Array Value)(L:Nat→Option Value)(hL:∀ i u u',L i=some u→c'[i]? = some u'→VR ok f u u'):∃ c:Array Value,AR ok f c c'∧∀ i u,L i=some u→i<c'.size→c[i]? = some u:=by
 have h1:∀ i:Fin c'.size,∃u,VR ok f u c'[i]∧∀ u',L i=some u'→u=u':=fun i=>by
  cases hl:L i with
  |some u=>exact⟨u,hL i u _ hl (Array.getElem?_eq_getElem i.2),fun u' e=>by cases e;rfl⟩
  |none =>
   obtain⟨u,hu⟩:=lW _ c'[i] (Nat.le_refl _);exact⟨u,hu ok f,fun u' e=>by cases e⟩
 obtain⟨y,hy⟩:=Classical.axiomOfChoice h1;refine⟨Array.ofFn y,⟨by simp,fun i u u' a b=>?_⟩,fun i u hl hi=>?_⟩
 ·obtain⟨hi,rfl⟩:=Array.getElem?_eq_some_iff.1 b
  have hi2:i<(Array.ofFn y).size:=by simpa using hi
  rw[Array.getElem?_eq_getElem hi2]at a;cases a;simpa using(hy ⟨i,hi⟩).1
 ·have hi2:i<(Array.ofFn y).size:=by simpa using hi
  rw[Array.getElem?_eq_getElem hi2];have:=(hy ⟨i,hi⟩).2 u hl;simp[this]
section
variable {P:Program}{main:Bool}{ro ro' own own0:Nat→Prop}{S:(Nat→Prop)→Goroutine→World→Prop}
theorem EvO.wide{own own2:Nat→Prop}{e:Event}(h:EvO ro own e)(hr:∀ x,ro x→ro' x)(ho:∀ x,own x→own2 x):EvO ro' own2 e:=by
 rcases h with⟨a,h1,h2,h3⟩|⟨x,h1,h2,h3⟩|h|h
 ·exact .inl ⟨a,h1,h2,h3.imp (ho _) fun h=>⟨hr _ h.1,h.2⟩⟩
 ·exact .inr (.inl ⟨x,h1,h2,ho _ h3⟩)
 ·exact .inr (.inr (.inl h))
 ·exact .inr (.inr (.inr h))
theorem Ends.mono{S1 S2:(Nat→Prop)→Goroutine→World→Prop}(hS:∀ own g w,S1 own g w→S2 own g w):∀ (ρ:Rk) {own:Nat→Prop} {g:Goroutine} {w:World},Ends P main ro S1 ρ own g w→Ends P main ro S2 ρ own g w:=by
 intro ρ
 induction ρ with
 |leaf=>intro own g w h w₁ h₁;exact hS _ _ _ (h w₁ h₁)
 |node t ih =>
  intro own g w h;rcases h with h|⟨hs,h⟩
  ·exact .inl fun w₁ h₁=>hS _ _ _ (h w₁ h₁)
  ·refine .inr ⟨hs,fun w₁ h₁=>?_⟩;obtain⟨own',g',w',es,k1,k2,k3⟩:=h w₁ h₁;exact⟨own',g',w',es,k1,k2,ih w₁ k3⟩
structure Aside(ro' own0 st own:Nat→Prop)(n:Nat):Prop where
 low:∀ x,own x→x<n
 low0:∀ x,own0 x→¬ own x∧x<n
 stb:∀ x,st x→ro' x∧¬ own0 x∧¬ own x∧x<n
theorem Aside.more{st:Nat→Prop}{n m:Nat}(h:Aside ro' own0 st own n)(hm:n≤m):Aside ro' own0 st own m :=
 ⟨fun x hx=>Nat.lt_of_lt_of_le (h.low x hx) hm,fun x hx=>⟨(h.low0 x hx).1,Nat.lt_of_lt_of_le (h.low0 x hx).2 hm⟩,fun x hx=>let ⟨a,b,c,d⟩:=h.stb x hx;⟨a,b,c,Nat.lt_of_lt_of_le d hm⟩⟩
structure Stays(own0 st:Nat→Prop)(w w':World):Prop where
 at0:∀ x,own0 x→w'.heap[x]? = w.heap[x]?
 atS:∀ x,st x→w'.heap[x]? = w.heap[x]?
 size:w.heap.size≤w'.heap.size
theorem Stays.trans{st:Nat→Prop}{a b c:World}(h:Stays own0 st a b)(k:Stays own0 st b c):Stays own0 st a c:=⟨fun x hx=>(k.at0 x hx).trans (h.at0 x hx),fun x hx=>(k.atS x hx).trans (h.atS x hx),Nat.le_trans h.size k.size⟩
theorem Ends.frame{st:Nat→Prop}(hr:∀ x,ro x→ro' x):∀ (ρ:Rk) {own:Nat→Prop} {g:Goroutine} {w:World},Ends P main ro S ρ own g w→Aside ro' own0 st own w.heap.size →
 Ends P main ro' (fun own' g' w'=>∃ ow,S ow g' w'∧own'=(fun x=>own0 x∨ow x)∧Aside ro' own0 st ow w'.heap.size∧Stays own0 st w w') ρ (fun x=>own0 x∨own x) g w:=by
 have narrow:∀ {own:Nat→Prop} {w w₁:World},Rely (fun x=>own0 x∨own x) ro' w w₁→Rely own ro w w₁:=fun h=>⟨h.size,fun x hx hs=>h.keep x (hx.imp .inr (hr x)) hs⟩;have sty:∀ {own:Nat→Prop} {w w₁:World},Rely (fun x=>own0 x∨own x) ro' w w₁→Aside ro' own0 st own w.heap.size→Stays own0 st w w₁:=fun h ha=>⟨fun x hx=>h.keep x (.inl (.inl hx)) (ha.low0 x hx).2,fun x hx=>h.keep x (.inr (ha.stb x hx).1) (ha.stb x hx).2.2.2,h.size⟩;intro ρ
 induction ρ with
 |leaf =>
  intro own g w h ha w₁ h₁;exact⟨own,h w₁ (narrow h₁),rfl,ha.more h₁.size,sty h₁ ha⟩
 |node t ih =>
  intro own g w h ha;rcases h with h|⟨hs,h⟩
  ·exact .inl fun w₁ h₁=>⟨own,h w₁ (narrow h₁),rfl,ha.more h₁.size,sty h₁ ha⟩
  ·refine .inr ⟨hs,fun w₁ h₁=>?_⟩;obtain⟨own',g',w',es,k1,k2,k3⟩:=h w₁ (narrow h₁);have ha1:=ha.more h₁.size
   have hnot:∀ x,x<w₁.heap.size→¬ own x→¬ own' x:=fun x hx hn ho=>by
    rcases k2.grow x ho with h|h
    ·exact hn h
    ·omega
   have ha2:Aside ro' own0 st own' w'.heap.size:=⟨k2.lt ha1.low,fun x hx=>⟨hnot x (ha1.low0 x hx).2 (ha1.low0 x hx).1,Nat.lt_of_lt_of_le (ha1.low0 x hx).2 k2.size⟩,fun x hx=>let ⟨a,b,c,d⟩:=ha1.stb x hx;⟨a,b,hnot x d c,Nat.lt_of_lt_of_le d k2.size⟩⟩;have hst:Stays own0 st w w':=(sty h₁ ha).trans ⟨fun x hx=>k2.keep x (ha1.low0 x hx).2 (ha1.low0 x hx).1,fun x hx=>k2.keep x (ha1.stb x hx).2.2.2 (ha1.stb x hx).2.2.1,k2.size⟩;refine⟨fun x=>own0 x∨own' x,g',w',es,k1,⟨k2.size,fun x hx hn=>k2.keep x hx fun h=>hn (.inr h),fun x hx=>hx.imp id (k2.le x),fun x hx=>?_,k2.os,k2.output,k2.tape,fun e he=>(k2.ev e he).wide hr fun x hx=>.inr hx,fun _ x hx=>?_⟩,?_⟩
   ·rcases hx with hx|hx
    ·exact .inl (.inl hx)
    ·exact(k2.grow x hx).imp .inr id
   ·rcases hx with hx|hx
    ·exact(ha2.low0 x hx).2
    ·exact ha2.low x hx
   ·refine Ends.mono (fun own2 g2 w2=>?_) _ (ih w₁ k3 ha2);rintro⟨ow,q1,q2,q3,q4⟩;exact⟨ow,q1,q2,q3,hst.trans q4⟩
end
end Co
namespace Ph
open Conc Co Cl
section
variable {X:Cx}{main:Bool}{Stop:Bl→Goroutine→World→Prop}{E:Env}{f:Fm}{w w0:World}{own0 st:Bl}
theorem Gl.call(hS:Sound X.P E){R:Value→Array Obj→Prop}{fc:Frame}{cs:List Frame}{i:FuncId}{args args':Array Value}(hi:E.ok i=true)(ha:AR E.ok f args args')(hw:WR E f (Co.re w0 w.tape w.drawn) w)
 (hc:∀ τ d,Calls X.P i args (Co.re w0 τ d) fun e w'=>∃ v,e=.returned v∧R v w'.heap) (hro:∀ x,E.ro x→X.Y.ro x) (has:Aside X.Y.ro own0 st (ownOf E f) w.heap.size)
 (hk:∀ g v v' u w₁,VR E.ok g v v'→R v u.heap→WR E g u w₁→Aside X.Y.ro own0 st (ownOf E g) w₁.heap.size→Stays own0 st w w₁→Gl X main dT Stop (fun x=>own0 x∨ownOf E g x) (G (fc.finish v') cs) w₁) :
 Gl X main dT Stop (fun x=>own0 x∨ownOf E f x) (G (Frame.enter X.P i args' .normal) (fc::cs)) w:=by
 obtain⟨ρ,h⟩:=goal_call hS (main:=main) (fc:=fc) (cs:=cs) (R:=R) hi ha hw hc;refine Gl.of_ends (Ends.frame (st:=st) (own0:=own0) hro ρ h has) ?_;rintro own g w₁ ⟨ow,⟨g1,v,v',u,h1,h2,rfl,h4,rfl⟩,rfl,h6,h7⟩;exact hk g1 v v' u w₁ h1 h2 h4 h6 h7
end
end Ph
