/- Texts of this seat,put together: WkWins,WkFront,WkPhase,WkMake,WkMap,WkMap2,WkNewest. -/
import Derived.Test.YtlaipigilikmbaaGreatDoorMb24
import Derived.Room.Make
namespace Go.Proofs.YtlaipigilikmbaaGreatDoor
noncomputable section
set_option linter.unusedVariables false
set_option linter.unusedSimpArgs false
namespace Cl
open Conc Go.ConcN Co
section
variable {P:Program}{Q:Value→World→Prop}
theorem turnB{a:Goroutine}{w:World}{Z:Nat→Prop}{B:Nat}(ha:a.status=.running)
 (hm:∀ gs sl t q τ d,gs[0]? = some a→Leavers P t gs q→Past (ShZ Z) B t →
  (∃m' ops,runT P (crowd gs (re w τ d) sl) 0=(.next m',ops)∧Ended P Q m' (t++ops))∨(∃o w' ops,runT P (crowd gs (re w τ d) sl) 0=(.ended o w',ops)∧∀ sl0 d0,Go.Conc.Good P Q (crowd gs (re w τ d0) sl0) o w' (t++ops))) :
 ∀gs sl t q τ d,gs[0]? = some a→Leavers P t gs q→Past (ShZ Z) B t→Ended P Q (crowd gs (re w τ d) sl) t:=by
 have key:∀ (M:Nat) gs sl t q τ d,sumTo gs.size q≤M→gs[0]? = some a→Leavers P t gs q→Past (ShZ Z) B t→Ended P Q (crowd gs (re w τ d) sl) t:=by
  intro M
  induction M with
  |zero =>
   intro gs sl t q τ d hM h0 hL hP
   have haw:∀ g∈gs,awake g:=by
    intro g hg;obtain⟨i,hi,rfl⟩:=Array.mem_iff_getElem.1 hg;rcases Nat.eq_zero_or_pos i with rfl|hpos
    ·have:gs[0]=a:=by simpa[Array.getElem?_eq_getElem hi] using h0
     rw[this];exact awake_of (.inl ha)
    ·exact awake_of ((hL.old i _ hpos (Array.getElem?_eq_getElem hi)).status.elim .inl fun x=>.inr (.inr x))
   obtain⟨i,g,d',sl',hi,hg,hst⟩:=crowd_pick (P:=P) (w:=re w τ d) (sl:=sl) haw ⟨0,a,h0,ha⟩;rcases Nat.eq_zero_or_pos i with rfl|hpos
   ·rcases hm gs sl' t q τ d' h0 hL hP with⟨m',ops,h1,h2⟩|⟨o,w',ops,h1,h2⟩
    ·exact .next (hst.trans h1) h2
    ·exact .last (hst.trans h1) (h2 sl d)
   ·have hq:=hL.old i g hpos hi;have hlt:i<gs.size:=(Array.getElem?_eq_some_iff.1 hi).1
    have hq0:q i=0:=by
     have:=Go.ConcN.le_sumTo (f:=q) hlt;omega
    rw[hq0]at hq;rw[hq.1]at hg;cases hg
  |succ M ih =>
   intro gs sl t q τ d hM h0 hL hP
   have haw:∀ g∈gs,awake g:=by
    intro g hg;obtain⟨i,hi,rfl⟩:=Array.mem_iff_getElem.1 hg;rcases Nat.eq_zero_or_pos i with rfl|hpos
    ·have:gs[0]=a:=by simpa[Array.getElem?_eq_getElem hi] using h0
     rw[this];exact awake_of (.inl ha)
    ·exact awake_of ((hL.old i _ hpos (Array.getElem?_eq_getElem hi)).status.elim .inl fun x=>.inr (.inr x))
   obtain⟨i,g,d',sl',hi,hg,hst⟩:=crowd_pick (P:=P) (w:=re w τ d) (sl:=sl) haw ⟨0,a,h0,ha⟩;rcases Nat.eq_zero_or_pos i with rfl|hpos
   ·rcases hm gs sl' t q τ d' h0 hL hP with⟨m',ops,h1,h2⟩|⟨o,w',ops,h1,h2⟩
    ·exact .next (hst.trans h1) h2
    ·exact .last (hst.trans h1) (h2 sl d)
   ·have hq:=hL.old i g hpos hi
    have hi0:(i==0)=false:=by simp;omega
    have hlt:i<gs.size:=(Array.getElem?_eq_some_iff.1 hi).1
    cases hqi:q i with
    |zero=>rw[hqi]at hq;rw[hq.1]at hg;cases hg
    |succ k =>
     rw[hqi]at hq;rcases hq with⟨hf,_⟩|⟨_,g',es,hmu,hstp,hq'⟩
     ·rw[hf]at hg;cases hg
     have hrunT:=runT_crowd_go (P:=P) (sl:=sl') (i:=i) hi (by rw[hi0];exact hstp ((re w τ d).at d'))
     have hsz:((gs.map (woken P g g' ((re w τ d).at d'))).setIfInBounds i g').size=gs.size:=by simp
     have hsum:sumTo gs.size (upd q i k)+(k+1)=sumTo gs.size q+k:=by
      have:=sumTo_upd q k id hlt;simpa[hqi] using this
     refine .next (hst.trans hrunT) ?_;refine ih ((gs.map (woken P g g' ((re w τ d).at d'))).setIfInBounds i g') sl' (t++MemOp.ofEvents i g.frame.fn g.frame.place es) (upd q i k) τ d' (by rw[hsz];omega) ?_ ⟨fun j x hj hx=>?_,fun j hj=>?_⟩ (hP.mute (by omega) hmu)
     ·have hne:i≠0:=by omega
      rw[Array.getElem?_setIfInBounds_ne hne,Array.getElem?_map,h0];simp[woken_run ha]
     ·by_cases hji:i=j
      ·subst hji;rw[Array.getElem?_setIfInBounds_self_of_lt (by simpa using hlt)]at hx;obtain rfl:=Option.some.inj hx;rw[upd_same,Deaf_own];exact hq'
      ·rw[Array.getElem?_setIfInBounds_ne hji,Array.getElem?_map]at hx;obtain⟨y,hy,rfl⟩:=Option.map_eq_some_iff.1 hx;have hqj:=hL.old j y hj hy;rw[woken_quitsD hqj,upd_ne q k (Ne.symm hji),Deaf_other t hji _ (fun op hop=>by obtain⟨e,_,rfl⟩:=Go.Conc.mem_ofEvents hop;rfl)];exact hqj
     ·rw[Deaf_other t (g':=i) (by simp at hj;omega) _ (fun op hop=>by obtain⟨e,_,rfl⟩:=Go.Conc.mem_ofEvents hop;rfl)];exact hL.above j (by simpa using hj)
 exact fun gs sl t q τ d=>key _ gs sl t q τ d (Nat.le_refl _)
theorem own_stepB{B B':Nat}{a a':Goroutine}{w w':World}{Z:Nat→Prop}{gs:Array Goroutine}{sl:Option (Nat×Nat)}{t:Trace}{q:Nat→Nat}{τ:Tp}{d d':Nat}{es:Array Event}(h0:gs[0]? = some a)(hL:Leavers P t gs q)(hP:Past (ShZ Z) B t)
 (hs:stepG P true a (re w τ d)=.go a' (re w' τ d') es) (hsz:B≤B') (hev:∀ e∈es,EvL (ShZ Z) B' e)
 (hk:∀ gs sl t q d,gs[0]? = some a'→Leavers P t gs q→Past (ShZ Z) B' t→Ended P Q (crowd gs (re w' τ d) sl) t) :
 ∃m' ops,runT P (crowd gs (re w τ d) sl) 0=(.next m',ops)∧Ended P Q m' (t++ops):=by
 have hrunT:=runT_crowd_go (P:=P) (sl:=sl) (i:=0) h0 (show stepG P (0==0) a (re w τ d)=_ from hs);have hlt:0<gs.size:=(Array.getElem?_eq_some_iff.1 h0).1;refine⟨_,_,hrunT,hk _ sl _ q d' (by simp[hlt]) ⟨fun j x hj hx=>?_,fun j hj=>?_⟩ ((hP.mono hsz).own hev)⟩
 ·have hne:0≠j:=by omega
  rw[Array.getElem?_setIfInBounds_ne hne,Array.getElem?_map]at hx;obtain⟨y,hy,rfl⟩:=Option.map_eq_some_iff.1 hx;have hq:=hL.old j y hj hy;rw[woken_quitsD hq,Deaf_other t (by omega) _ (fun op hop=>by obtain⟨e,_,rfl⟩:=Go.Conc.mem_ofEvents hop;rfl)];exact hq
 ·rw[Deaf_other t (g':=0) (by simp at hj;omega) _ (fun op hop=>by obtain⟨e,_,rfl⟩:=Go.Conc.mem_ofEvents hop;rfl)];exact hL.above j (by simpa using hj)
def WinsB(P:Program)(Q:Value→World→Prop)(Z:Nat→Prop)(B:Nat)(g:Goroutine)(w:World):Prop :=
 ∀gs sl t q τ d,gs[0]? = some g→Leavers P t gs q→Past (ShZ Z) B t→Ended P Q (crowd gs (re w τ d) sl) t
variable {Z:Nat→Prop}{B B':Nat}{g:Goroutine}{w:World}
theorem winsB_of(hB:B=w.heap.size)(h:WinsB P Q Z B g w):Wins P Q Z g w:=by subst hB;exact h
theorem lg(hg:g.status=.running)(hBB:B≤B')(h:∀ τ d,∃g' w' d' es,stepG P true g (re w τ d)=.go g' (re w' τ d') es∧(∀e∈es,EvL (ShZ Z) B' e)∧WinsB P Q Z B' g' w'):WinsB P Q Z B g w :=
 turnB hg fun gs sl t q τ d h0 hL hP=>by
  obtain⟨g',w',d',es,h1,h3,h4⟩:=h τ d;exact .inl (own_stepB (w:=w) h0 hL hP h1 hBB h3 fun gs sl t q d h0 hL hP=>h4 gs sl t q τ d h0 hL hP)
theorem dV:∀ (n:Nat) {g:Goroutine},Ph.Calms P true n g→WinsB P Q Z B (Ph.it P n g) w→WinsB P Q Z B g w
 |0,_,_,h=>h
 |n+1,g,⟨h1,h2,h3⟩,h=>lg h1 (Nat.le_refl _) fun τ d=>⟨_,w,d,#[],h2 _,fun e he=>by simp at he,dV n h3 h⟩
theorem az:∀ (n:Nat) {g:Goroutine},Ph.Calms P true n g→Wins P Q Z (Ph.it P n g) w→Wins P Q Z g w:=fun n g h k=>dV n h k
theorem dO{o:Oper}{v:Value}{w':World}(h:Ph.AtO g o)(hs:g.status=.running)(hr:∀ τ d,(execOp (Ph.aOf g).eval o).runT P (re w τ d) #[]=(.ok (.value v) (re w' τ d),#[]))(hk:WinsB P Q Z B (Ph.fin g v) w'):WinsB P Q Z B g w:=by
 refine lg hs (Nat.le_refl _) fun τ d=>⟨_,w',d,#[],?_,fun e he=>by simp at he,hk⟩
 have hrun:(execOp (Ph.aOf g).eval o).run P (re w τ d)=.ok (.value v) (re w' τ d):=by rw[←Sem.runT_fst P _ (re w τ d) #[],hr]
 have hst:=Ph.step_value (main:=true) h hrun
 have he:listed P g.frame.fn (Ph.aOf g) o (re w τ d)=#[]:=by
  unfold listed Sem.events;rw[hr];rfl
 rw[he]at hst;exact hst
end
end Cl
namespace Ph
open Conc Co Cl
section
variable (A:Option Addr)(L cp n bp bc bo bn bw:Nat)(c:Frame)(cs:List Frame)
theorem lk0_calm:Calms Tryz.prog true 2 (lk0 A L cp n c cs):=by
 iterate 2 refine⟨by kernel_rfl,fun _=>by kernel_rfl,?_⟩
 trivial
theorem lk0_at:AtO (it Tryz.prog 2 (lk0 A L cp n c cs)) (oOf (it Tryz.prog 2 (lk0 A L cp n c cs))):=⟨by unfold AtOp;kernel_rfl,by kernel_rfl,by kernel_rfl,by rw[show(Goroutine.frame (it Tryz.prog 2 (lk0 A L cp n c cs))).kind=.normal by kernel_rfl];simp⟩
theorem lk1_calm:Calms Tryz.prog true 5 (lk1 A L cp n bp c cs):=by
 iterate 5 refine⟨by kernel_rfl,fun _=>by kernel_rfl,?_⟩
 trivial
theorem lk1_at:AtO (it Tryz.prog 5 (lk1 A L cp n bp c cs)) (oOf (it Tryz.prog 5 (lk1 A L cp n bp c cs))):=⟨by unfold AtOp;kernel_rfl,by kernel_rfl,by kernel_rfl,by rw[show(Goroutine.frame (it Tryz.prog 5 (lk1 A L cp n bp c cs))).kind=.normal by kernel_rfl];simp⟩
theorem lk2_at:AtO (lk2 A L cp n bp bc c cs) (oOf (lk2 A L cp n bp bc c cs)):=⟨by unfold AtOp;kernel_rfl,by kernel_rfl,by kernel_rfl,by rw[show(Goroutine.frame (lk2 A L cp n bp bc c cs)).kind=.normal by kernel_rfl];simp⟩
theorem lk3_at:AtO (lk3 A L cp n bp bc bo c cs) (oOf (lk3 A L cp n bp bc bo c cs)):=⟨by unfold AtOp;kernel_rfl,by kernel_rfl,by kernel_rfl,by rw[show(Goroutine.frame (lk3 A L cp n bp bc bo c cs)).kind=.normal by kernel_rfl];simp⟩
theorem lk4_calm:Calms Tryz.prog true 3 (lk4 A L cp n bp bc bo c cs):=by
 iterate 3 refine⟨by kernel_rfl,fun _=>by kernel_rfl,?_⟩
 trivial
theorem lk4_at:AtO (it Tryz.prog 3 (lk4 A L cp n bp bc bo c cs)) (oOf (it Tryz.prog 3 (lk4 A L cp n bp bc bo c cs))):=⟨by unfold AtOp;kernel_rfl,by kernel_rfl,by kernel_rfl,by rw[show(Goroutine.frame (it Tryz.prog 3 (lk4 A L cp n bp bc bo c cs))).kind=.normal by kernel_rfl];simp⟩
theorem lk5_calm:Calms Tryz.prog true 3 (lk5 A L cp n bp bc bo bn c cs):=by
 iterate 3 refine⟨by kernel_rfl,fun _=>by kernel_rfl,?_⟩
 trivial
theorem lk5_at:AtO (it Tryz.prog 3 (lk5 A L cp n bp bc bo bn c cs)) (oOf (it Tryz.prog 3 (lk5 A L cp n bp bc bo bn c cs))):=⟨by unfold AtOp;kernel_rfl,by kernel_rfl,by kernel_rfl,by rw[show(Goroutine.frame (it Tryz.prog 3 (lk5 A L cp n bp bc bo bn c cs))).kind=.normal by kernel_rfl];simp⟩
theorem lk6_calm:Calms Tryz.prog true 9 (lk6 A L cp n bp bc bo bn bw c cs):=by
 iterate 9 refine⟨by kernel_rfl,fun _=>by kernel_rfl,?_⟩
 trivial
end
section
variable (A:Option Addr)(L cp n:Nat)(c:Frame)(cs:List Frame)(w:World)
def oP:Obj:=.cells #[.slice A L cp] 43 (0,0)
def oO(v:Value):Obj:=.cells #[v] 109 (0,0)
def oC:Obj:=.chan n #[] false 0 0 false
theorem lk0_run(w:World):(execOp (aOf (it Tryz.prog 2 (lk0 A L cp n c cs))).eval (oOf (it Tryz.prog 2 (lk0 A L cp n c cs)))).runT Tryz.prog w #[]=(.ok (.value (pw w.heap.size)) {w with heap:=w.heap.push (oP A L cp)},#[]):=by kernel_rfl
theorem lk1_run0(bp:Nat)(w:World):(execOp (aOf (it Tryz.prog 5 (lk1 A L cp 0 bp c cs))).eval (oOf (it Tryz.prog 5 (lk1 A L cp 0 bp c cs)))).runT Tryz.prog w #[]=(.ok (.value (.chan (some w.heap.size))) {w with heap:=w.heap.push (oC 0)},#[]):=by kernel_rfl
theorem lk1_run1(bp:Nat)(w:World):(execOp (aOf (it Tryz.prog 5 (lk1 A L cp 1 bp c cs))).eval (oOf (it Tryz.prog 5 (lk1 A L cp 1 bp c cs)))).runT Tryz.prog w #[]=(.ok (.value (.chan (some w.heap.size))) {w with heap:=w.heap.push (oC 1)},#[]):=by kernel_rfl
theorem lk1_run2(bp:Nat)(w:World):(execOp (aOf (it Tryz.prog 5 (lk1 A L cp 2 bp c cs))).eval (oOf (it Tryz.prog 5 (lk1 A L cp 2 bp c cs)))).runT Tryz.prog w #[]=(.ok (.value (.chan (some w.heap.size))) {w with heap:=w.heap.push (oC 2)},#[]):=by kernel_rfl
theorem lk1_run3(bp:Nat)(w:World):(execOp (aOf (it Tryz.prog 5 (lk1 A L cp 3 bp c cs))).eval (oOf (it Tryz.prog 5 (lk1 A L cp 3 bp c cs)))).runT Tryz.prog w #[]=(.ok (.value (.chan (some w.heap.size))) {w with heap:=w.heap.push (oC 3)},#[]):=by kernel_rfl
theorem lk1_run4(bp:Nat)(w:World):(execOp (aOf (it Tryz.prog 5 (lk1 A L cp 4 bp c cs))).eval (oOf (it Tryz.prog 5 (lk1 A L cp 4 bp c cs)))).runT Tryz.prog w #[]=(.ok (.value (.chan (some w.heap.size))) {w with heap:=w.heap.push (oC 4)},#[]):=by kernel_rfl
theorem lk1_run5(bp:Nat)(w:World):(execOp (aOf (it Tryz.prog 5 (lk1 A L cp 5 bp c cs))).eval (oOf (it Tryz.prog 5 (lk1 A L cp 5 bp c cs)))).runT Tryz.prog w #[]=(.ok (.value (.chan (some w.heap.size))) {w with heap:=w.heap.push (oC 5)},#[]):=by kernel_rfl
theorem lk1_run6(bp:Nat)(w:World):(execOp (aOf (it Tryz.prog 5 (lk1 A L cp 6 bp c cs))).eval (oOf (it Tryz.prog 5 (lk1 A L cp 6 bp c cs)))).runT Tryz.prog w #[]=(.ok (.value (.chan (some w.heap.size))) {w with heap:=w.heap.push (oC 6)},#[]):=by kernel_rfl
theorem lk1_run7(bp:Nat)(w:World):(execOp (aOf (it Tryz.prog 5 (lk1 A L cp 7 bp c cs))).eval (oOf (it Tryz.prog 5 (lk1 A L cp 7 bp c cs)))).runT Tryz.prog w #[]=(.ok (.value (.chan (some w.heap.size))) {w with heap:=w.heap.push (oC 7)},#[]):=by kernel_rfl
theorem lk1_run8(bp:Nat)(w:World):(execOp (aOf (it Tryz.prog 5 (lk1 A L cp 8 bp c cs))).eval (oOf (it Tryz.prog 5 (lk1 A L cp 8 bp c cs)))).runT Tryz.prog w #[]=(.ok (.value (.chan (some w.heap.size))) {w with heap:=w.heap.push (oC 8)},#[]):=by kernel_rfl
theorem lk1_run(hn:n≤8)(bp:Nat)(w:World):(execOp (aOf (it Tryz.prog 5 (lk1 A L cp n bp c cs))).eval (oOf (it Tryz.prog 5 (lk1 A L cp n bp c cs)))).runT Tryz.prog w #[]=(.ok (.value (.chan (some w.heap.size))) {w with heap:=w.heap.push (oC n)},#[]):=by
 have:n=0∨n=1∨n=2∨n=3∨n=4∨n=5∨n=6∨n=7∨n=8:=by omega
 rcases this with rfl|rfl|rfl|rfl|rfl|rfl|rfl|rfl|rfl
 ·exact lk1_run0 A L cp c cs bp w
 ·exact lk1_run1 A L cp c cs bp w
 ·exact lk1_run2 A L cp c cs bp w
 ·exact lk1_run3 A L cp c cs bp w
 ·exact lk1_run4 A L cp c cs bp w
 ·exact lk1_run5 A L cp c cs bp w
 ·exact lk1_run6 A L cp c cs bp w
 ·exact lk1_run7 A L cp c cs bp w
 ·exact lk1_run8 A L cp c cs bp w
theorem lk2_run(bp bc:Nat)(w:World):(execOp (aOf (lk2 A L cp n bp bc c cs)).eval (oOf (lk2 A L cp n bp bc c cs))).runT Tryz.prog w #[]=(.ok (.value (pw w.heap.size)) {w with heap:=w.heap.push (oO (.chan none))},#[]):=by kernel_rfl
theorem lk4_run(bp bc bo:Nat)(w:World):(execOp (aOf (it Tryz.prog 3 (lk4 A L cp n bp bc bo c cs))).eval (oOf (it Tryz.prog 3 (lk4 A L cp n bp bc bo c cs)))).runT Tryz.prog w #[]=(.ok (.value (pw w.heap.size)) {w with heap:=w.heap.push (nxObj 0)},#[]):=by kernel_rfl
theorem lk5_run(bp bc bo bn:Nat)(w:World):(execOp (aOf (it Tryz.prog 3 (lk5 A L cp n bp bc bo bn c cs))).eval (oOf (it Tryz.prog 3 (lk5 A L cp n bp bc bo bn c cs)))).runT Tryz.prog w #[]=(.ok (.value (pw w.heap.size)) {w with heap:=w.heap.push (wgObj 0 0)},#[]):=by kernel_rfl
theorem lk3_op(bp bc bo:Nat):(oOf (lk3 A L cp n bp bc bo c cs)).op=.store 109 (.tmp 5) (.tmp 9):=by kernel_rfl
theorem lk3_x(bp bc bo:Nat):(aOf (lk3 A L cp n bp bc bo c cs)).eval (.tmp 5)=pw bo∧(aOf (lk3 A L cp n bp bc bo c cs)).eval (.tmp 9)=.chan (some bc):=⟨by kernel_rfl,by kernel_rfl⟩
end
end Ph
namespace Ph
open Conc Co Cl
section
variable {P:Program}{w:World}
theorem run_storeV{b o:Nat}{t ty:TypeId}{cur:Array Value}{v:Value}(hv:v.cells=#[v])(h1:v.oneCell'=true)(hb:w.heap[b]? = some (.cells cur t (0,0)))(ho:o<cur.size)(hi:(P.info? ty).map (·.size)=some 1) :
 (storeVar ty ⟨b,o,none⟩ v).run P w=.ok () (w.setRow b (cur.setIfInBounds o v))∧∀ e∈(storeVar ty ⟨b,o,none⟩ v).events P w #[],∃ad,e=⟨.cell ad,true,false⟩∧ad.block=b:=by
 have hq:=gJ (P:=P) hi
 have e1:(Go.sizeOf ty).run P w=.ok 1 w:=by rw[←Sem.runT_fst P _ w #[],hq]
 have e2:(Go.sizeOf ty).events P w #[]=#[]:=by unfold Sem.events;rw[hq]
 have hadd:(⟨b,o,none⟩:Addr).add 0=⟨b,o,none⟩:=by unfold Addr.add;simp
 have hcell:w.cell? ⟨b,o,none⟩=some cur[o]:=by simp[World.cell?,hb,ho]
 have hfro:w.frozen? ⟨b,o,none⟩=false:=by simp[World.frozen?,hb]
 have hst:(store ⟨b,o,none⟩ v).run P w=.ok () (w.setRow b (cur.setIfInBounds o v)):=by
  rw[run_store P w _ v _ h1,hcell];simp[hfro,setCell_eq_setRow w b o cur t (0,0) v hb]
 have hz:storeVar ty ⟨b,o,none⟩ v=(Go.sizeOf ty >>= fun s=>if v.cells.size≠s then stuck "storeVar: the value has not the size of the variable" else storeCells ⟨b,o,none⟩ [v] 0):=by
  unfold storeVar;rw[hv];rfl
 constructor
 ·rw[hz,Sem.run_bind,e1,Result.andThen_ok];rw[if_neg (by simp[hv])];simp only[storeCells,hadd,Sem.run_bind,hst,Result.andThen_ok];rfl
 ·intro e he;rw[hz,Sem.events_bind,e1,Result.evThen_ok,e2,if_neg (by simp[hv])]at he;rcases dN b o t [v] 0 cur w #[] hb (by simp;omega) (fun u hu=>by simp at hu;subst hu;exact h1) e he with h|h
  ·simp at h
  ·exact h
end
structure Args(w:World)(A:Option Addr)(L:Nat)(pv:Nat→Value)(pg:Nat→List UInt8)(ro0 Z:Bl):Prop where
 page:∀ k,k<L→∃ b off,A=some ⟨b,off,none⟩∧ro0 b∧w.cell? ⟨b,off+k,none⟩=some (pv k)∧PgAt w (pv k) (pg k)∧∀ x,blkOf (pv k) x→ro0 x
 lt:∀ b,ro0 b→b<w.heap.size
 nz:∀ b,ro0 b→¬ Z b
 zlt:∀ b,Z b→b<w.heap.size
section
variable (A:Option Addr)(L cp n:Nat)
def w1(w:World):World:={w with heap:=w.heap.push (oP A L cp)}
def w2(w:World):World:={w with heap:=(w.heap.push (oP A L cp)).push (oC n)}
def w3(v:Value)(w:World):World:={w with heap:=((w.heap.push (oP A L cp)).push (oC n)).push (oO v)}
def w5(v:Value)(w:World):World:={w with heap:=(((w.heap.push (oP A L cp)).push (oC n)).push (oO v)).push (nxObj 0)}
def w6(v:Value)(w:World):World:={w with heap:=((((w.heap.push (oP A L cp)).push (oC n)).push (oO v)).push (nxObj 0)).push (wgObj 0 0)}
end
section
variable {A:Option Addr}{L cp n:Nat}{v:Value}{w:World}
theorem w6_size:(w6 A L cp n v w).heap.size=w.heap.size+5:=by simp[w6]
theorem w6_old{b:Nat}(h:b<w.heap.size):(w6 A L cp n v w).heap[b]? = w.heap[b]?:=by
 simp only[w6,Array.getElem?_push,Array.size_push];rw[if_neg (by omega),if_neg (by omega),if_neg (by omega),if_neg (by omega),if_neg (by omega)]
theorem w6_0:(w6 A L cp n v w).heap[w.heap.size]? = some (oP A L cp):=by
 simp only[w6,Array.getElem?_push,Array.size_push];rw[if_neg (by omega),if_neg (by omega),if_neg (by omega),if_neg (by omega),if_pos trivial]
theorem w6_1:(w6 A L cp n v w).heap[w.heap.size+1]? = some (oC n):=by
 simp only[w6,Array.getElem?_push,Array.size_push];rw[if_neg (by omega),if_neg (by omega),if_neg (by omega),if_pos trivial]
theorem w6_2:(w6 A L cp n v w).heap[w.heap.size+2]? = some (oO v):=by
 simp only[w6,Array.getElem?_push,Array.size_push];rw[if_neg (by omega),if_neg (by omega),if_pos trivial]
theorem w6_3:(w6 A L cp n v w).heap[w.heap.size+3]? = some (nxObj 0):=by
 simp only[w6,Array.getElem?_push,Array.size_push];rw[if_neg (by omega),if_pos trivial]
theorem w6_4:(w6 A L cp n v w).heap[w.heap.size+4]? = some (wgObj 0 0):=by
 simp only[w6,Array.getElem?_push,Array.size_push];rw[if_pos trivial]
theorem w3_set{u:Value}:(w3 A L cp n v w).setRow (w.heap.size+2) #[u]=w3 A L cp n u w:=by
 unfold World.setRow w3
 congr 1
 apply Array.ext
 ·simp
 ·intro i h1 h2;simp only[Array.getElem_modify,Array.getElem_push,Array.size_push];by_cases hi:w.heap.size+2=i
  ·rw[if_pos hi,dif_neg (by omega),dif_neg (by omega)];rfl
  ·rw[if_neg hi]
   have h3:i<w.heap.size+3:=by simpa using h2
   have h4:i<w.heap.size+1+1:=by omega
   rw[dif_pos h4,dif_pos h4]
end
def cfgOf(w:World)(A:Option Addr)(L cp n:Nat)(pv:Nat→Value)(pg:Nat→List UInt8)(ro0 Z:Bl)(τ:Tp)(d n0 cl:Nat):Cfg :=
 {W0:=Co.re (w6 A L cp n (.chan (some (w.heap.size+1))) w) τ d,n:=n,L:=L,cp:=cp,Ap:=A,pv:=pv,pg:=pg,bp:=w.heap.size,bc:=w.heap.size+1,bo:=w.heap.size+2,bn:=w.heap.size+3,bw:=w.heap.size+4,ro:=fun b=>b=w.heap.size∨b=w.heap.size+2∨ro0 b,Z:=Z,n0:=n0,cl:=cl}
section
variable {w:World}{A:Option Addr}{L cp n:Nat}{pv:Nat→Value}{pg:Nat→List UInt8}{ro0 Z:Bl}{τ:Tp}{d n0 cl:Nat}
theorem cfg_ok(h:Args w A L pv pg ro0 Z):bK (cfgOf w A L cp n pv pg ro0 Z τ d n0 cl) where
 roP:=.inl rfl
 roO:=.inr (.inl rfl)
 roN:=fun e=>by
  rcases e with e|e|e
  ·simp only[cfgOf]at e;omega
  ·simp only[cfgOf]at e;omega
  ·have:=h.lt _ e;simp only[cfgOf]at this;omega
 roW:=fun e=>by
  rcases e with e|e|e
  ·simp only[cfgOf]at e;omega
  ·simp only[cfgOf]at e;omega
  ·have:=h.lt _ e;simp only[cfgOf]at this;omega
 roC:=fun e=>by
  rcases e with e|e|e
  ·simp only[cfgOf]at e;omega
  ·simp only[cfgOf]at e;omega
  ·have:=h.lt _ e;simp only[cfgOf]at this;omega
 atP:=w6_0
 atO:=w6_2
 page:=fun k hk=>by
  obtain⟨b,off,h1,h2,h3,h4,h5⟩:=h.page k hk;have hold:∀ x,ro0 x→(w6 A L cp n (.chan (some (w.heap.size+1))) w).heap[x]? = w.heap[x]?:=fun x hx=>w6_old (h.lt x hx);refine⟨b,off,h1,.inr (.inr h2),?_,?_,fun x hx=>.inr (.inr (h5 x hx))⟩
  ·have:(w6 A L cp n (.chan (some (w.heap.size+1))) w).cell? ⟨b,off+k,none⟩=some (pv k):=by
    unfold World.cell? at h3⊢;rw[hold b h2];exact h3
   exact this
  ·exact h4.mono (w':=(cfgOf w A L cp n pv pg ro0 Z τ d n0 cl).W0) fun x hx=>hold x (h5 x hx)
theorem cfg_three{LoopA LoadA:Goroutine→World→Prop}{SpA:Nat→Bl→Goroutine→World→Prop}{RecA Fin:List Nat→Bl→Bl→Goroutine→World→Prop}(hn:n≤8)(hL:L≤4096):Three (mk0 (cfgOf w A L cp n pv pg ro0 Z τ d n0 cl) LoopA LoadA SpA RecA Fin) where
 nw:=by show w.heap.size+3≠w.heap.size+4;omega
 cw:=by show w.heap.size+1≠w.heap.size+4;omega
 cn:=by show w.heap.size+1≠w.heap.size+3;omega
 small:=by show L+n+2<2147483647;omega
 few:=hn
theorem cfg_lies{LoopA LoadA:Goroutine→World→Prop}{SpA:Nat→Bl→Goroutine→World→Prop}{RecA Fin:List Nat→Bl→Bl→Goroutine→World→Prop}(h:Args w A L pv pg ro0 Z){bm:Nat}(hb:bm<w.heap.size)(hr:¬ ro0 bm)(hz:¬ Z bm) :
 Lies (mk0 (cfgOf w A L cp n pv pg ro0 Z τ d n0 cl) LoopA LoadA SpA RecA Fin) (fun b=>b=bm) (w.heap.size+3) (cfgOf w A L cp n pv pg ro0 Z τ d n0 cl).W0 where
 nx:=w6_3
 wg:=w6_4
 ch:=⟨0,0,w6_1⟩
 nxB:=Nat.le_refl _
 wgB:=Nat.le_succ _
 ownlt:=fun b e=>by
  subst e;show b<(w6 A L cp n (.chan (some (w.heap.size+1))) w).heap.size;rw[w6_size];omega
 ownNx:=fun e=>by have:w.heap.size+3=bm:=e;omega
 ownWg:=fun e=>by have:w.heap.size+4=bm:=e;omega
 ownCh:=fun e=>by have:w.heap.size+1=bm:=e;omega
 ownRo:=fun b e hro=>by
  subst e;rcases hro with e|e|e
  ·omega
  ·omega
  ·exact hr e
 ownZ:=fun b e=>by subst e;exact hz
 rolt:=fun b hro=>by
  show b<(w6 A L cp n (.chan (some (w.heap.size+1))) w).heap.size;rw[w6_size];rcases hro with e|e|e
  ·omega
  ·omega
  ·have:=h.lt b e;omega
 roNx:=(cfg_ok (cp:=cp) (n:=n) (τ:=τ) (d:=d) (n0:=n0) (cl:=cl) h).roN
 roWg:=(cfg_ok (cp:=cp) (n:=n) (τ:=τ) (d:=d) (n0:=n0) (cl:=cl) h).roW
 roCh:=(cfg_ok (cp:=cp) (n:=n) (τ:=τ) (d:=d) (n0:=n0) (cl:=cl) h).roC
 roZ:=fun b hro hZ=>by
  have:=h.zlt b hZ;rcases hro with e|e|e
  ·omega
  ·omega
  ·exact h.nz b e hZ
 zlt:=fun b hZ=>by
  show b<(w6 A L cp n (.chan (some (w.heap.size+1))) w).heap.size;rw[w6_size];have:=h.zlt b hZ;omega
 Bs:=by
  show w.heap.size+3≤(w6 A L cp n (.chan (some (w.heap.size+1))) w).heap.size;rw[w6_size];omega
 still:=⟨rfl,rfl⟩
end
section
variable {Q:Value→World→Prop}{w:World}{A:Option Addr}{L cp n:Nat}{pv:Nat→Value}{pg:Nat→List UInt8}{ro0 Z:Bl}
abbrev lookX(RecA Fin:Cfg→List Nat→Bl→Bl→Goroutine→World→Prop)(c:Frame)(cs:List Frame)(bm:Nat)(ob:Obj)(C:Cfg):Cx:=mk0 C (loopA C) (loadA C) (spA C c cs bm ob) (RecA C) (Fin C)
theorem look_wins{RecA Fin:Cfg→List Nat→Bl→Bl→Goroutine→World→Prop}{c:Frame}{cs:List Frame}{bm:Nat}{ob:Obj}{Z':Bl}(h:Args w A L pv pg ro0 Z)(hn1:1≤n)(hn:n≤8)(hL:L≤4096)(hb:w.heap[bm]? = some ob)(hr:¬ ro0 bm)(hz:¬ Z bm)
 (hZ:∀ b,Z b→Z' b) (hZ1:Z' (w.heap.size+1)) (hZ3:Z' (w.heap.size+3)) (hZ4:Z' (w.heap.size+4))
 (hW:∀ τ d n0 cl,Walks (lookX RecA Fin c cs bm ob (cfgOf w A L cp n pv pg ro0 Z τ d n0 cl))) (hF:∀ τ d n0 cl,lI (lookX RecA Fin c cs bm ob (cfgOf w A L cp n pv pg ro0 Z τ d n0 cl)) Q Z'):Wins Tryz.prog Q Z (lk0 A L cp n c cs) w:=by
 have hbl:bm<w.heap.size:=(Array.getElem?_eq_some_iff.1 hb).1;refine winsB_of rfl ?_;refine dV 2 (lk0_calm A L cp n c cs) ?_;refine dO (v:=pw w.heap.size) (w':=w1 A L cp w) (lk0_at A L cp n c cs) (by kernel_rfl) (fun τ d=>lk0_run A L cp n c cs (Co.re w τ d)) ?_;refine dV 5 (lk1_calm A L cp n w.heap.size c cs) ?_
 have s1:(w1 A L cp w).heap.size=w.heap.size+1:=by simp[w1]
 refine dO (v:=.chan (some (w.heap.size+1))) (w':=w2 A L cp n w) (lk1_at A L cp n w.heap.size c cs) (by kernel_rfl) (fun τ d=>?_) ?_
 ·have:=lk1_run A L cp n c cs hn w.heap.size (Co.re (w1 A L cp w) τ d);rw[show(Co.re (w1 A L cp w) τ d).heap.size=w.heap.size+1 from s1]at this;exact this
 have s2:(w2 A L cp n w).heap.size=w.heap.size+2:=by simp[w2]
 refine dO (v:=pw (w.heap.size+2)) (w':=w3 A L cp n (.chan none) w) (lk2_at A L cp n w.heap.size (w.heap.size+1) c cs) (by kernel_rfl) (fun τ d=>?_) ?_
 ·have:=lk2_run A L cp n c cs w.heap.size (w.heap.size+1) (Co.re (w2 A L cp n w) τ d);rw[show(Co.re (w2 A L cp n w) τ d).heap.size=w.heap.size+2 from s2]at this;exact this
 show WinsB Tryz.prog Q Z w.heap.size (lk3 A L cp n w.heap.size (w.heap.size+1) (w.heap.size+2) c cs) (w3 A L cp n (.chan none) w);refine lg (B':=w.heap.size+3) (by kernel_rfl) (by omega) fun τ d=>?_
 have hrow:(Co.re (w3 A L cp n (.chan none) w) τ d).heap[w.heap.size+2]? = some (.cells #[.chan none] 109 (0,0)):=by
  show(((w.heap.push (oP A L cp)).push (oC n)).push (oO (.chan none)))[w.heap.size+2]? = _;simp only[Array.getElem?_push,Array.size_push];rw[if_pos trivial];rfl
 obtain⟨hst,hev⟩:=run_storeV (P:=Tryz.prog) (o:=0) (ty:=109) (v:=.chan (some (w.heap.size+1))) rfl rfl hrow (by simp) (by kernel_rfl)
 have hex:execOp (aOf (lk3 A L cp n w.heap.size (w.heap.size+1) (w.heap.size+2) c cs)).eval (oOf (lk3 A L cp n w.heap.size (w.heap.size+1) (w.heap.size+2) c cs))=(do storeVar 109 ⟨w.heap.size+2,0,none⟩ (.chan (some (w.heap.size+1)));Pure.pure Next.skip):=by
  unfold execOp;simp only[lk3_op,lk3_x];rfl
 refine⟨_,w3 A L cp n (.chan (some (w.heap.size+1))) w,d,_,step_skip (w':=Co.re (w3 A L cp n (.chan (some (w.heap.size+1))) w) τ d) (lk3_at A L cp n w.heap.size (w.heap.size+1) (w.heap.size+2) c cs) ?_,fun e he=>?_,?_⟩
 ·rw[hex,Sem.run_bind,hst,Result.andThen_ok];show Result.ok Next.skip (Co.re ((w3 A L cp n (.chan none) w).setRow (w.heap.size+2) #[.chan (some (w.heap.size+1))]) τ d)=_;rw[w3_set]
 ·have he2:=mem_seen he;rw[hex,Sem.events_bind,hst,Result.evThen_ok]at he2;rw[show ∀(w':World) (es:Array Event),(Pure.pure Next.skip:Sem Next).events Tryz.prog w' es=es from fun _ _=>rfl]at he2;obtain⟨ad,had0,had⟩:=hev e he2;subst had0;refine⟨fun x hx hs=>?_,by simp,by simp,?_⟩
  ·rw[ofEvent_cell0]at hx;simp only[MemAct.touch?,Option.some.injEq]at hx;subst hx;rcases hs with⟨b,e,hb⟩|⟨b,e,hb⟩
   ·cases e;have:=h.zlt _ hb;omega
   ·cases e
  ·rw[ofEvent_cell0];show ad.block<w.heap.size+3;omega
 refine dV 3 (lk4_calm A L cp n w.heap.size (w.heap.size+1) (w.heap.size+2) c cs) ?_
 have s3:(w3 A L cp n (.chan (some (w.heap.size+1))) w).heap.size=w.heap.size+3:=by simp[w3]
 refine dO (v:=pw (w.heap.size+3)) (w':=w5 A L cp n (.chan (some (w.heap.size+1))) w) (lk4_at A L cp n w.heap.size (w.heap.size+1) (w.heap.size+2) c cs) (by kernel_rfl) (fun τ d=>?_) ?_
 ·have:=lk4_run A L cp n c cs w.heap.size (w.heap.size+1) (w.heap.size+2) (Co.re (w3 A L cp n (.chan (some (w.heap.size+1))) w) τ d);rw[show(Co.re (w3 A L cp n (.chan (some (w.heap.size+1))) w) τ d).heap.size=w.heap.size+3 from s3]at this;exact this
 refine dV 3 (lk5_calm A L cp n w.heap.size (w.heap.size+1) (w.heap.size+2) (w.heap.size+3) c cs) ?_
 have s5:(w5 A L cp n (.chan (some (w.heap.size+1))) w).heap.size=w.heap.size+4:=by simp[w5]
 refine dO (v:=pw (w.heap.size+4)) (w':=w6 A L cp n (.chan (some (w.heap.size+1))) w) (lk5_at A L cp n w.heap.size (w.heap.size+1) (w.heap.size+2) (w.heap.size+3) c cs) (by kernel_rfl) (fun τ d=>?_) ?_
 ·have:=lk5_run A L cp n c cs w.heap.size (w.heap.size+1) (w.heap.size+2) (w.heap.size+3) (Co.re (w5 A L cp n (.chan (some (w.heap.size+1))) w) τ d);rw[show(Co.re (w5 A L cp n (.chan (some (w.heap.size+1))) w) τ d).heap.size=w.heap.size+4 from s5]at this;exact this
 intro gs sl t q τ d h0 hLv hP;have hC:=cfg_ok (cp:=cp) (n:=n) (τ:=τ) (d:=d) (n0:=t.size) (cl:=gs.size+n) h;have hr0:∀ b,(cfgOf w A L cp n pv pg ro0 Z τ d t.size (gs.size+n)).ro b→b<(cfgOf w A L cp n pv pg ro0 Z τ d t.size (gs.size+n)).W0.heap.size:=(cfg_lies (LoopA:=fun _ _=>True) (LoadA:=fun _ _=>True) (SpA:=fun _ _ _ _=>True) (RecA:=fun _ _ _ _ _=>True) (Fin:=fun _ _ _ _ _=>True) h hbl hr hz).rolt;refine look_starts (X:=lookX RecA Fin c cs bm ob (cfgOf w A L cp n pv pg ro0 Z τ d t.size (gs.size+n))) (Z':=Z') (B:=w.heap.size+3) (own:=fun b=>b=bm) (hW τ d t.size (gs.size+n)) (cfg_three hn hL) hn1 hZ hZ3 hZ4 hZ1 (hF τ d t.size (gs.size+n)) (cfg_lies h hbl hr hz) h0 hLv hP rfl rfl ⟨rfl,⟨⟨fun _ _=>rfl,hr0⟩,?_⟩,_,9,lk6_calm A L cp n w.heap.size (w.heap.size+1) (w.heap.size+2) (w.heap.size+3) (w.heap.size+4) c cs,lk6_it A L cp n w.heap.size (w.heap.size+1) (w.heap.size+2) (w.heap.size+3) (w.heap.size+4) c cs⟩ sl;exact(w6_old hbl).trans hb
end
end Ph
namespace Ph
open Conc Co Cl
end Ph
namespace Ph
open Conc Co Cl
structure Fnd where
 lba:Int
 page:Int
 seq:Int
 kind:Int
def fv(x:Fnd):Value:=.agg #[.int .i64 x.lba,.int .i64 x.page,.int .i64 x.seq,.int .i64 x.kind]
def zFnd:Fnd:=⟨0,0,0,0⟩
def bP(es:Array MapEntry)(l:List Fnd):Prop:=es.toList.map (fun e=>(e.key,e.val))=l.map fun x=>(Value.int .i64 x.lba,fv x)
def fnd(x:Int):List Fnd→Nat→Option (Nat×Value)
 |[],_=>none
 |e::l,i=>if x=e.lba then some (i,fv e) else fnd x l (i+1)
theorem gz{d:IntKind}(x:Int):∀ (es:List MapEntry) (l:List Fnd) (i:Nat),es.map (fun e=>(e.key,e.val))=l.map (fun x=>(Value.int .i64 x.lba,fv x))→Instr.findNow (.int d) (.int .i64 x) es i=some (fnd x l i)
 |[],[],_,_=>rfl
 |[],_::_,_,h=>by cases h
 |_::_,[],_,h=>by cases h
 |e::es,f::l,i,h=>by
  simp only[List.map_cons,List.cons.injEq,Prod.mk.injEq]at h;obtain⟨⟨h1,h2⟩,h3⟩:=h;unfold Instr.findNow;rw[h1];show(match Instr.sameNow (.int d) (.int .i64 x) (.int .i64 f.lba) with|some true=>some (some (i,e.val))|some false=>Instr.findNow (.int d) (.int .i64 x) es (i+1)|none=>none)=_
  have:Instr.sameNow (.int d) (.int .i64 x) (.int .i64 f.lba)=some (x==f.lba):=by simp[Instr.sameNow]
  rw[this];unfold fnd;by_cases e:x=f.lba
  ·rw[if_pos e,h2];simp[e]
  ·rw[if_neg e,show(x==f.lba)=false by simpa using e];exact gz x es l (i+1) h3
section
variable {P:Program}{w w':World}{es es':Array Event}
theorem aP{α β:Type}{x:Sem α}{f:α→Sem β}{a:α}(h:x.runT P w es=(.ok a w',es')):(x >>= f).runT P w es=(f a).runT P w' es':=by
 show(x.bind f).runT P w es=_;rw[Sem.runT_bind',h]
theorem jK{b:Bool}{n:Nat}{kt:TypeId}{d k:IntKind}{x:Int}(hk:P.underlying kt=some (.int d)):Qt P (Instr.checkKey b (n+1) kt (.int k x)) ():=by
 unfold Instr.checkKey;refine(Qt.under hk).bind ?_;exact .pure _
theorem lu{kt:TypeId}{d:IntKind}{v:Value}{l:List MapEntry}{r:Option (Nat×Value)}(hk:P.underlying kt=some (.int d))(h:Instr.findNow (.int d) v l 0=some r):Qt P (Instr.findKey kt v l) r:=by
 unfold Instr.findKey;refine(Qt.under hk).bind ?_;rw[h];exact .pure _
theorem qt_zero{et:TypeId}{z:Value}(hz:(P.info? et).bind (·.zero)=some z):Qt P (zeroValue et) z:=by
 unfold zeroValue
 cases hi:P.info? et with
 |none=>rw[hi]at hz;cases hz
 |some i =>
  rw[hi]at hz;have hz:i.zero=some z:=hz;refine Qt.bind (a:=i) ?_ ?_
  ·unfold typeInfo;refine Qt.program.bind ?_;rw[hi];exact .pure _
  ·rw[hz];exact .pure _
theorem jO{bm:Nat}{en:Array MapEntry}{clk:Nat}(hb:w.heap[bm]? = some (.map en clk)):(getObj bm).runT P w es=(.ok (.map en clk) w,es.push ⟨.obj bm,false,false⟩):=by
 simp[-Sem.runT_eq,getObj,Sem.runT,hb,Obj.isChan]
theorem setMap_runT{bm:Nat}{en:Array MapEntry}{clk:Nat}{o:Array MapEntry}{c:Nat}(hb:w.heap[bm]? = some (.map en clk)):(setObj bm (.map o c)).runT P w es=(.ok () {w with heap:=w.heap.setIfInBounds bm (.map o c)},es.push ⟨.obj bm,true,false⟩):=by
 simp[-Sem.runT_eq,setObj,Sem.runT,hb,Obj.isChan]
end
section
variable {P:Program}{w:World}{mt kt et:TypeId}{d:IntKind}{bm:Nat}{es:Array MapEntry}{clk:Nat}{l:List Fnd}
theorem lookup_runT(hm:P.underlying mt=some (.map kt et))(hk:P.underlying kt=some (.int d))(hz:(P.info? et).bind (·.zero)=some (fv zFnd))(hb:w.heap[bm]? = some (.map es clk))(he:bP es l)(x:Int) :
 (Instr.lookup mt (.map (some bm)) (.int .i64 x) true).runT P w #[]=(.ok (match fnd x l 0 with|some (_,v)=>.tuple #[v,.bool true]|none=>.tuple #[fv zFnd,.bool false]) w,#[⟨.obj bm,false,false⟩]):=by
 have hf:=gz (d:=d) x es.toList l 0 he;unfold Instr.lookup;refine(aP (Qt.under hm w #[])).trans ?_
 dsimp only
 refine(aP (jO hb)).trans ?_
 dsimp only
 refine(aP (jK (n:=9999) hk w _)).trans ?_;refine(aP (lu hk hf w _)).trans ?_
 cases fnd x l 0 with
 |none=>exact(aP (qt_zero hz w _)).trans rfl
 |some r=>rfl
def updE(es:Array MapEntry)(clk:Nat)(l:List Fnd)(x:Fnd):Obj :=
 match fnd x.lba l 0 with
 |some (i,_)=>.map (es.modify i fun e=>{e with key:=.int .i64 x.lba,val:=fv x}) clk
 |none=>.map (es.push {key:=.int .i64 x.lba,val:=fv x,born:=clk}) (clk+1)
theorem fnd_at(x:Int):∀ (es:List MapEntry) (l:List Fnd) (i:Nat),es.map (fun e=>(e.key,e.val))=l.map (fun x=>(Value.int .i64 x.lba,fv x))→∀ j v,fnd x l i=some (j,v)→i≤j∧∃ e,es[j-i]? = some e∧e.key=.int .i64 x
 |[],[],_,_,j,v,h=>by cases h
 |[],_::_,_,h,_,_,_=>by cases h
 |_::_,[],_,h,_,_,_=>by cases h
 |e::es,f::l,i,h,j,v,hj=>by
  simp only[List.map_cons,List.cons.injEq,Prod.mk.injEq]at h;obtain⟨⟨h1,h2⟩,h3⟩:=h;unfold fnd at hj;by_cases e1:x=f.lba
  ·rw[if_pos e1]at hj;simp only[Option.some.injEq,Prod.mk.injEq]at hj;obtain⟨rfl,-⟩:=hj;exact⟨Nat.le_refl _,e,by simp,by rw[h1,e1]⟩
  ·rw[if_neg e1]at hj;obtain⟨k1,e',k2,k3⟩:=fnd_at x es l (i+1) h3 j v hj;refine⟨by omega,e',?_,k3⟩;rw[show j-i=(j-(i+1))+1 by omega];simpa using k2
theorem update_runT(hm:P.underlying mt=some (.map kt et))(hk:P.underlying kt=some (.int d))(hb:w.heap[bm]? = some (.map es clk))(he:bP es l)(x:Fnd) :
 (Instr.mapUpdate mt (.map (some bm)) (.int .i64 x.lba) (fv x)).runT P w #[]=(.ok () {w with heap:=w.heap.setIfInBounds bm (updE es clk l x)},#[⟨.obj bm,false,false⟩,⟨.obj bm,true,false⟩]):=by
 have hf:=gz (d:=d) x.lba es.toList l 0 he;unfold Instr.mapUpdate;refine(aP (Qt.under hm w #[])).trans ?_
 dsimp only
 refine(aP (jO hb)).trans ?_
 dsimp only
 refine(aP (jK (n:=9999) hk w _)).trans ?_;refine(aP (lu hk hf w _)).trans ?_;unfold updE
 cases hff:fnd x.lba l 0 with
 |none=>exact(setMap_runT hb).trans rfl
 |some r =>
  obtain⟨j,v⟩:=r;obtain⟨-,e,h1,h2⟩:=fnd_at x.lba es.toList l 0 he j v hff
  have h3:es[j]? = some e:=by simpa using h1
  dsimp only
  rw[h3]
  dsimp only[Option.map_some,Option.getD_some]
  rw[h2]
  have hk:Qt P (Instr.keyThatStays (.int .i64 x.lba) (.int .i64 x.lba)) (.int .i64 x.lba):=by
   unfold Instr.keyThatStays;rw[if_pos (by unfold Instr.sameBits;simp)];exact .pure _
  refine(aP (hk w _)).trans ?_;exact(setMap_runT hb).trans rfl
end
def zSeen:Value:=.agg #[.int .i64 0,.int .i64 0,.int .i64 0,.int .i64 0,.slice none 0 0,.int .i64 0]
def sv6(k:Nat)(a1 a2 a3 a4:Int)(sl:Value):Array Value:=#[.int .i64 k,.int .i64 a1,.int .i64 a2,.int .i64 a3,sl,.int .i64 a4]
def z6:Array Value:=#[.int .i64 0,.int .i64 0,.int .i64 0,.int .i64 0,.slice none 0 0,.int .i64 0]
end Ph
namespace Ph
open Conc Co Cl
def upd(x:Fnd):List Fnd→List Fnd
 |[]=>[x]
 |e::l=>if x.lba=e.lba then x::l else e::upd x l
def look1(x:Int):List Fnd→Option Fnd
 |[]=>none
 |e::l=>if x=e.lba then some e else look1 x l
theorem fnd_look(x:Int):∀ (l:List Fnd) (i:Nat),(fnd x l i).map (·.2)=(look1 x l).map fv
 |[],_=>rfl
 |e::l,i=>by
  unfold fnd look1;by_cases h:x=e.lba
  ·rw[if_pos h,if_pos h];rfl
  ·rw[if_neg h,if_neg h];exact fnd_look x l (i+1)
theorem upd_list(x:Fnd):∀ (es:List MapEntry) (l:List Fnd) (i:Nat) (clk:Nat),es.map (fun e=>(e.key,e.val))=l.map (fun x=>(Value.int .i64 x.lba,fv x)) →
 (∀j v,fnd x.lba l i=some (j,v)→(es.modify (j-i) fun e=>{e with key:=.int .i64 x.lba,val:=fv x}).map (fun e=>(e.key,e.val))=(upd x l).map fun x=>(Value.int .i64 x.lba,fv x)) ∧
 (fnd x.lba l i=none→(es++[({key:=.int .i64 x.lba,val:=fv x,born:=clk}:MapEntry)]).map (fun e=>(e.key,e.val))=(upd x l).map fun x=>(Value.int .i64 x.lba,fv x))
 |[],[],_,_,_=>⟨fun _ _ h=>(by cases h),fun _=>rfl⟩
 |[],_::_,_,_,h=>by cases h
 |_::_,[],_,_,h=>by cases h
 |e::es,f::l,i,clk,h=>by
  simp only[List.map_cons,List.cons.injEq,Prod.mk.injEq]at h;obtain⟨⟨h1,h2⟩,h3⟩:=h;obtain⟨k1,k2⟩:=upd_list x es l (i+1) clk h3;unfold fnd upd;by_cases e1:x.lba=f.lba
  ·rw[if_pos e1,if_pos e1];refine⟨fun j v hj=>?_,fun hn=>by cases hn⟩;simp only[Option.some.injEq,Prod.mk.injEq]at hj;obtain⟨rfl,-⟩:=hj;rw[Nat.sub_self];simp only[List.modify_zero_cons,List.map_cons,h3]
  ·rw[if_neg e1,if_neg e1];refine⟨fun j v hj=>?_,fun hn=>?_⟩
   ·have hji:i+1≤j:=(fnd_at x.lba es l (i+1) h3 j v hj).1;rw[show j-i=(j-(i+1))+1 by omega];simp only[List.modify_succ_cons,List.map_cons,h1,h2,k1 j v hj]
   ·simp only[List.cons_append,List.map_cons,h1,h2,k2 hn]
theorem upd_ents{es:Array MapEntry}{clk:Nat}{l:List Fnd}(x:Fnd)(h:bP es l):∃ es' clk',updE es clk l x=.map es' clk'∧bP es' (upd x l):=by
 obtain⟨k1,k2⟩:=upd_list x es.toList l 0 clk h;unfold updE
 cases hf:fnd x.lba l 0 with
 |none=>exact⟨_,_,rfl,by unfold bP;rw[Array.toList_push];exact k2 hf⟩
 |some r =>
  obtain⟨j,v⟩:=r;refine⟨_,_,rfl,?_⟩;unfold bP;rw[Array.toList_modify];exact k1 j v hf
section
variable {X:Cx}{main:Bool}{Stop:Bl→Goroutine→World→Prop}{own:Bl}{w:World}{g:Goroutine}{o:Oper}{mt kt et:TypeId}{d:IntKind}{bm:Nat}{es:Array MapEntry}{clk:Nat}{l:List Fnd}
theorem Gl.lookup{x:Int}(h:AtO g o)(hs:g.status=.running)(hop:execOp (aOf g).eval o=(do Pure.pure (Next.value (←Instr.lookup mt (.map (some bm)) (.int .i64 x) true))))(hm:X.P.underlying mt=some (.map kt et))(hk:X.P.underlying kt=some (.int d))(hz:(X.P.info? et).bind (·.zero)=some (fv zFnd))
 (hb:w.heap[bm]? = some (.map es clk)) (ho:own bm) (he:bP es l) (hn:Gl X main dT Stop own (fin g (match fnd x l 0 with|some (_,v)=>.tuple #[v,.bool true]|none=>.tuple #[fv zFnd,.bool false])) w):Gl X main dT Stop own g w:=by
 refine Gl.still hs (fun w₁ h₁ hl=>?_) hn;have hb1:w₁.heap[bm]? = some (.map es clk):=(h₁.rel.keep bm (.inl ho) (Array.getElem?_eq_some_iff.1 hb).1).trans hb;have hr:=lookup_runT (P:=X.P) hm hk hz hb1 he x
 have hT:(execOp (aOf g).eval o).runT X.P w₁ #[]=(.ok (.value (match fnd x l 0 with|some (_,v)=>.tuple #[v,.bool true]|none=>.tuple #[fv zFnd,.bool false])) w₁,#[⟨.obj bm,false,false⟩]):=by
  rw[hop];exact(aP hr).trans rfl
 have hrun:(execOp (aOf g).eval o).run X.P w₁=.ok (.value (match fnd x l 0 with|some (_,v)=>.tuple #[v,.bool true]|none=>.tuple #[fv zFnd,.bool false])) w₁:=by rw[←Sem.runT_fst X.P _ w₁ #[],hT]
 refine⟨_,step_value h hrun,trivial,fun e hm=>?_⟩;have hm2:=mem_seen hm;unfold Sem.events at hm2;rw[hT]at hm2;simp only[List.mem_toArray,List.mem_singleton]at hm2;subst hm2;exact .inr (.inl ⟨bm,rfl,rfl,ho⟩)
theorem Gl.update{x:Fnd}(h:AtO g o)(hs:g.status=.running)(hop:execOp (aOf g).eval o=(do Instr.mapUpdate mt (.map (some bm)) (.int .i64 x.lba) (fv x);Pure.pure Next.skip))(hm:X.P.underlying mt=some (.map kt et))(hk:X.P.underlying kt=some (.int d))
 (hb:w.heap[bm]? = some (.map es clk)) (ho:own bm) (he:bP es l) (hn:∀ w₁,RR X own w w₁→Live X w₁→Gl X main dT Stop own (fin g undef) {w₁ with heap:=w₁.heap.setIfInBounds bm (updE es clk l x)}):Gl X main dT Stop own g w:=by
 refine Gl.step hs fun w₁ h₁ hl=>?_;have hb1:w₁.heap[bm]? = some (.map es clk):=(h₁.rel.keep bm (.inl ho) (Array.getElem?_eq_some_iff.1 hb).1).trans hb;have hr:=update_runT (P:=X.P) hm hk hb1 he x
 have hT:(execOp (aOf g).eval o).runT X.P w₁ #[]=(.ok .skip {w₁ with heap:=w₁.heap.setIfInBounds bm (updE es clk l x)},#[⟨.obj bm,false,false⟩,⟨.obj bm,true,false⟩]):=by
  rw[hop];exact(aP hr).trans rfl
 have hrun:(execOp (aOf g).eval o).run X.P w₁=.ok .skip {w₁ with heap:=w₁.heap.setIfInBounds bm (updE es clk l x)}:=by rw[←Sem.runT_fst X.P _ w₁ #[],hT]
 refine⟨own,_,_,_,step_skip h hrun,⟨by simp,fun y hy hno=>?_,fun y h=>h,fun y h=>.inl h,rfl,rfl,rfl,fun e hm=>?_,fun hl y h=>by simpa using hl y h⟩,trivial,hn w₁ h₁ hl⟩
 ·have hyb:bm≠y:=fun e=>hno (e▸ho);simp only[Array.getElem?_setIfInBounds];rw[if_neg hyb]
 ·have hm2:=mem_seen hm;unfold Sem.events at hm2;rw[hT]at hm2;simp only[List.mem_toArray,List.mem_cons,List.not_mem_nil,or_false]at hm2;rcases hm2 with rfl|rfl
  ·exact .inr (.inl ⟨bm,rfl,rfl,ho⟩)
  ·exact .inr (.inl ⟨bm,rfl,rfl,ho⟩)
end
end Ph
namespace Ph
open Conc Co Cl
section
variable (A:Option Addr)(L cp n:Nat)(c:Frame)(cs:List Frame)
def nw0:Goroutine:=G (Frame.enter Tryz.prog 14 #[.slice A L cp,.int .i64 n] .normal) (c::cs)
def nwA:Goroutine:=fin (it Tryz.prog 19 (nw0 A L cp n c cs)) (.bool false)
def nwB:Goroutine:=fin (it Tryz.prog 2 (nwA A L cp n c cs)) (.bool false)
def nwC:Goroutine:=fin (it Tryz.prog 9 (nwB A L cp n c cs)) (.bool false)
def nwD:Goroutine:=it Tryz.prog 20 (nwC A L cp n c cs)
variable (bm:Nat)
def nwE:Goroutine:=it Tryz.prog 7 (fin (nwD A L cp n c cs) (.map (some bm)))
def nwF:Frame:=(nwE A L cp n c cs bm).frame
theorem nw0_calm:Calms Tryz.prog true 20 (nw0 A L cp n c cs):=by
 iterate 20 refine⟨by kernel_rfl,fun _=>by kernel_rfl,?_⟩
 trivial
theorem nw0_it:it Tryz.prog 20 (nw0 A L cp n c cs)=fin (it Tryz.prog 19 (nw0 A L cp n c cs)) (.bool (decide ((n:Int)<1))):=by kernel_rfl
theorem nwA_calm:Calms Tryz.prog true 3 (nwA A L cp n c cs):=by
 iterate 3 refine⟨by kernel_rfl,fun _=>by kernel_rfl,?_⟩
 trivial
theorem nwA_it:it Tryz.prog 3 (nwA A L cp n c cs)=fin (it Tryz.prog 2 (nwA A L cp n c cs)) (.bool (decide ((8:Int)<(n:Int)))):=by kernel_rfl
theorem nwB_calm:Calms Tryz.prog true 10 (nwB A L cp n c cs):=by
 iterate 10 refine⟨by kernel_rfl,fun _=>by kernel_rfl,?_⟩
 trivial
theorem nwB_it:it Tryz.prog 10 (nwB A L cp n c cs)=fin (it Tryz.prog 9 (nwB A L cp n c cs)) (.bool (decide ((4096:Int)<(L:Int)))):=by kernel_rfl
theorem nwC_calm:Calms Tryz.prog true 20 (nwC A L cp n c cs):=by
 iterate 20 refine⟨by kernel_rfl,fun _=>by kernel_rfl,?_⟩
 trivial
theorem nwD_at:AtO (nwD A L cp n c cs) (oOf (nwD A L cp n c cs)):=⟨by unfold AtOp;kernel_rfl,by kernel_rfl,by kernel_rfl,by rw[show(Goroutine.frame (nwD A L cp n c cs)).kind=.normal by kernel_rfl];simp⟩
theorem nwD_run(w:World):(execOp (aOf (nwD A L cp n c cs)).eval (oOf (nwD A L cp n c cs))).runT Tryz.prog w #[]=(.ok (.value (.map (some w.heap.size))) {w with heap:=w.heap.push (.map #[] 0)},#[]):=by kernel_rfl
theorem nwD_calm:Calms Tryz.prog true 8 (fin (nwD A L cp n c cs) (.map (some bm))):=by
 iterate 8 refine⟨by kernel_rfl,fun _=>by kernel_rfl,?_⟩
 trivial
theorem nwD_it:it Tryz.prog 8 (fin (nwD A L cp n c cs) (.map (some bm)))=lk0 A L cp n (nwF A L cp n c cs bm) (c::cs):=by kernel_rfl
variable (bc:Nat)
def nwR0:Goroutine:=it Tryz.prog 5 (G (Frame.finish (nwF A L cp n c cs bm) (.chan (some bc))) (c::cs))
theorem nwF_calm:Calms Tryz.prog true 5 (G (Frame.finish (nwF A L cp n c cs bm) (.chan (some bc))) (c::cs)):=by
 iterate 5 refine⟨by kernel_rfl,fun _=>by kernel_rfl,?_⟩
 trivial
end
def Tn(A:Option Addr)(L cp n bm bc:Nat)(f:Nat→Value):Array Value:=#[.slice A L cp,.int .i64 n,f 2,f 3,f 4,f 5,f 6,.map (some bm),f 8,f 9,f 10,f 11,f 12,f 13,f 14,f 15,f 16,f 17,f 18,f 19,f 20,f 21,f 22,f 23,.chan (some bc),f 25,f 26,f 27,f 28,f 29,f 30,f 31,f 32,f 33,f 34,f 35,f 36,f 37,f 38,f 39,f 40,f 41,f 42,f 43,f 44,f 45,f 46,f 47,f 48,f 49,f 50,f 51,f 52,f 53,f 54,f 55,f 56,f 57,f 58,f 59,f 60,f 61,f 62,f 63,f 64,f 65,f 66,f 67,f 68,f 69,f 70,f 71,f 72,f 73,f 74,f 75,f 76,f 77,f 78,f 79,f 80,f 81,f 82,f 83,f 84,f 85,f 86,f 87,f 88,f 89,f 90,f 91,f 92,f 93,f 94,f 95,f 96,f 97,f 98,f 99,f 100]
section
variable (A:Option Addr)(L cp n:Nat)(c:Frame)(cs:List Frame)(bm bc:Nat)(f:Nat→Value)
def nwR:Goroutine:={nwR0 A L cp n c cs bm bc with frame:={(nwR0 A L cp n c cs bm bc).frame with tmps:=Tn A L cp n bm bc f}}
theorem nwF_it:it Tryz.prog 5 (G (Frame.finish (nwF A L cp n c cs bm) (.chan (some bc))) (c::cs))=nwR A L cp n c cs bm bc (fun i=>(nwR0 A L cp n c cs bm bc).frame.tmps.getD i undef):=by kernel_rfl
theorem nwR_run:Goroutine.status (nwR A L cp n c cs bm bc f)=.running:=by kernel_rfl
theorem nwR_recv(w:World):stepG Tryz.prog true (nwR A L cp n c cs bm bc f) w=.comm (Conc.core (nwR A L cp n c cs bm bc f)) #[rcase bc zSeen] true (.recv true) w #[]:=by kernel_rfl
variable (k:Nat)(a1 a2 a3 a4:Int)(sl:Value)
def nwV:Goroutine:=Conc.served (Conc.core (nwR A L cp n c cs bm bc f)) (.tuple #[.agg (sv6 k a1 a2 a3 a4 sl),.bool true])
theorem nwV_calm:Calms Tryz.prog true 9 ((nwV A L cp n c cs bm bc f k a1 a2 a3 a4 sl)):=by
 iterate 9 refine⟨by kernel_rfl,fun _=>by kernel_rfl,?_⟩
 trivial
def nwX:Goroutine:=it Tryz.prog 9 (nwV A L cp n c cs bm bc f k a1 a2 a3 a4 sl)
theorem nwX_at:AtO ((nwX A L cp n c cs bm bc f k a1 a2 a3 a4 sl)) (oOf ((nwX A L cp n c cs bm bc f k a1 a2 a3 a4 sl))):=⟨by unfold AtOp;kernel_rfl,by kernel_rfl,by kernel_rfl,by rw[show(Goroutine.frame ((nwX A L cp n c cs bm bc f k a1 a2 a3 a4 sl))).kind=.normal by kernel_rfl];simp⟩
variable (b8:Nat)
def nwY:Goroutine:=fin (nwX A L cp n c cs bm bc f k a1 a2 a3 a4 sl) (pw b8)
theorem nwY_at:AtO ((nwY A L cp n c cs bm bc f k a1 a2 a3 a4 sl b8)) (oOf ((nwY A L cp n c cs bm bc f k a1 a2 a3 a4 sl b8))):=⟨by unfold AtOp;kernel_rfl,by kernel_rfl,by kernel_rfl,by rw[show(Goroutine.frame ((nwY A L cp n c cs bm bc f k a1 a2 a3 a4 sl b8))).kind=.normal by kernel_rfl];simp⟩
theorem nwY_calm:Calms Tryz.prog true 4 (fin (nwY A L cp n c cs bm bc f k a1 a2 a3 a4 sl b8) undef):=by
 iterate 4 refine⟨by kernel_rfl,fun _=>by kernel_rfl,?_⟩
 trivial
def nwZ:Goroutine:=it Tryz.prog 4 (fin (nwY A L cp n c cs bm bc f k a1 a2 a3 a4 sl b8) undef)
theorem nwZ_at:AtO ((nwZ A L cp n c cs bm bc f k a1 a2 a3 a4 sl b8)) (oOf ((nwZ A L cp n c cs bm bc f k a1 a2 a3 a4 sl b8))):=⟨by unfold AtOp;kernel_rfl,by kernel_rfl,by kernel_rfl,by rw[show(Goroutine.frame ((nwZ A L cp n c cs bm bc f k a1 a2 a3 a4 sl b8))).kind=.normal by kernel_rfl];simp⟩
def fr4(a1 a2 a3:Int)(sl:Value):Array Value:=#[.int .i64 a1,.int .i64 a2,.int .i64 a3,sl]
def nwM:Goroutine:=fin (nwZ A L cp n c cs bm bc f k a1 a2 a3 a4 sl b8) (.agg (fr4 a1 a2 a3 sl))
theorem nwM_at:AtO ((nwM A L cp n c cs bm bc f k a1 a2 a3 a4 sl b8)) (oOf ((nwM A L cp n c cs bm bc f k a1 a2 a3 a4 sl b8))):=⟨by unfold AtOp;kernel_rfl,by kernel_rfl,by kernel_rfl,by rw[show(Goroutine.frame ((nwM A L cp n c cs bm bc f k a1 a2 a3 a4 sl b8))).kind=.normal by kernel_rfl];simp⟩
variable (b9:Nat)
def nwN:Goroutine:=fin (nwM A L cp n c cs bm bc f k a1 a2 a3 a4 sl b8) (pw b9)
theorem nwN_at:AtO ((nwN A L cp n c cs bm bc f k a1 a2 a3 a4 sl b8 b9)) (oOf ((nwN A L cp n c cs bm bc f k a1 a2 a3 a4 sl b8 b9))):=⟨by unfold AtOp;kernel_rfl,by kernel_rfl,by kernel_rfl,by rw[show(Goroutine.frame ((nwN A L cp n c cs bm bc f k a1 a2 a3 a4 sl b8 b9))).kind=.normal by kernel_rfl];simp⟩
theorem nwN_calm:Calms Tryz.prog true 5 (fin (nwN A L cp n c cs bm bc f k a1 a2 a3 a4 sl b8 b9) undef):=by
 iterate 5 refine⟨by kernel_rfl,fun _=>by kernel_rfl,?_⟩
 trivial
def nwP:Goroutine:=it Tryz.prog 5 (fin (nwN A L cp n c cs bm bc f k a1 a2 a3 a4 sl b8 b9) undef)
theorem nwP_at:AtO ((nwP A L cp n c cs bm bc f k a1 a2 a3 a4 sl b8 b9)) (oOf ((nwP A L cp n c cs bm bc f k a1 a2 a3 a4 sl b8 b9))):=⟨by unfold AtOp;kernel_rfl,by kernel_rfl,by kernel_rfl,by rw[show(Goroutine.frame ((nwP A L cp n c cs bm bc f k a1 a2 a3 a4 sl b8 b9))).kind=.normal by kernel_rfl];simp⟩
def nwP1:Goroutine:=fin (nwP A L cp n c cs bm bc f k a1 a2 a3 a4 sl b8 b9) (.int .i64 a4)
theorem nwP1_calm:Calms Tryz.prog true 1 ((nwP1 A L cp n c cs bm bc f k a1 a2 a3 a4 sl b8 b9)):=by
 iterate 1 refine⟨by kernel_rfl,fun _=>by kernel_rfl,?_⟩
 trivial
theorem nwP1_it:it Tryz.prog 1 (nwP1 A L cp n c cs bm bc f k a1 a2 a3 a4 sl b8 b9)=fin (nwP1 A L cp n c cs bm bc f k a1 a2 a3 a4 sl b8 b9) (.bool (!decide (a4=2))):=by kernel_rfl
def nwW:Goroutine:=Conc.served (Conc.core (nwR A L cp n c cs bm bc f)) (.tuple #[zSeen,.bool false])
end
end Ph
