/- Texts of this seat,put together: ClO5,ClO6,CoO,CoO2,CoO3,CoO4,CoO5,CoO6. -/
import Derived.Test.YtlaipigilikmbaaGreatDoorMb2
import Derived.Test.YtlaipigilikmbaaGreatDoorMb1
namespace Go.Proofs.YtlaipigilikmbaaGreatDoor
noncomputable section
set_option linter.unusedVariables false
set_option linter.unusedSimpArgs false
namespace Cl
open Conc Co
section
variable {P:Program}{E:Ev}{α β:Type}{Q:α→Prop}
def CEs(E:Ev)(es:List MapEntry):Prop:=∀ x∈es,CV E x.key∧CV E x.val
theorem mO(hG:E.A P.globals.size){t:TypeId}{k:Value}(hk:CV E k):∀ (es:List MapEntry) (i:Nat),CEs E es→U P E (Instr.findAsking t k es i) fun r=>∀ p,r=some p→CV E p.2
 |[],i,h=>.pure fun p e=>by cases e
 |e::es,i,h=>by
  unfold Instr.findAsking;refine(eP _ _ _ _ hk (h e (by simp)).1 hG).bind fun b _=>U.ite (fun _=>.pure fun p e'=>by cases e';exact(h e (by simp)).2) fun _=>mO hG hk es (i+1) fun x hx=>h x (by simp[hx])
theorem findNow_cv{d:TypeDesc}{k:Value}:∀ (es:List MapEntry) (i:Nat),CEs E es→∀ r,Instr.findNow d k es i=some r→∀ p,r=some p→CV E p.2
 |[],i,h,r,e,p,e2=>by simp only[Instr.findNow,Option.some.injEq]at e;subst e;cases e2
 |x::es,i,h,r,e,p,e2=>by
  simp only[Instr.findNow]at e;split at e
  ·cases e;cases e2;exact(h x (by simp)).2
  ·exact findNow_cv es (i+1) (fun y hy=>h y (by simp[hy])) r e p e2
  ·cases e
theorem u_findKey(hG:E.A P.globals.size){t:TypeId}{k:Value}(hk:CV E k){es:List MapEntry}(h:CEs E es):U P E (Instr.findKey t k es) fun r=>∀ p,r=some p→CV E p.2:=by
 unfold Instr.findKey;refine(ae _).u.bind fun d hd=>?_;clear hd;split
 ·rename_i r e;exact .pure (findNow_cv es 0 h r e)
 ·exact mO hG hk es 0 h
theorem u_lookup(hG:E.A P.globals.size){t:TypeId}{x i:Value}{b:Bool}(hx:CV E x)(hi:CV E i)(hz:∀ k e,P.underlying t=some (.map k e)→ZC P E e):U P E (Instr.lookup t x i b) (CV E):=by
 unfold Instr.lookup;refine(ae _).u.bind fun d hd=>?_;split
 ·rename_i key elem
  have fin:∀ es:Array MapEntry,CEs E es.toList→U P E (do
   Instr.checkKey es.isEmpty 10000 key i
   let (v,ok) ←match ←Instr.findKey key i es.toList with
    |some (_,v)=>Pure.pure (v,true)
    |none=>Pure.pure (←zeroValue elem,false)
   Pure.pure (if b then .tuple #[v,.bool ok] else v):Sem Value) (CV E):=by
   intro es hes
   have last:∀ p:Value×Bool,CV E p.1→CV E (if b=true then .tuple #[p.1,.bool p.2] else p.1):=fun p hp=>by
    split
    ·exact .tuple fun u hu=>by
      simp at hu;rcases hu with rfl|rfl
      ·exact hp
      ·exact .bool _
    ·exact hp
   refine(iq hG _ _ _ _ hi).bind fun _ _=>(u_findKey hG hi hes).bind fun r hr=>?_
   cases r with
   |none=>exact(iL (hz _ _ hd)).u.bind fun z hzz=>.pure (last (z,false) hzz)
   |some p=>exact .pure (last (p.2,true) (hr p rfl))
  cases hx with
  |mapN=>exact fin #[] fun x hx=>by simp at hx
  |map hr =>
   refine(U.getObj hr).bind fun o ho=>?_
   cases ho with
   |map h=>exact fin _ fun x hx=>h x (by simpa using hx)
   |_=>exact U.bind (Q:=fun es:Array MapEntry=>CEs E es.toList) .stuck fun es hes=>fin es hes
  |_=>exact U.bind (Q:=fun es:Array MapEntry=>CEs E es.toList) .stuck fun es hes=>fin es hes
 ·exact .stuck
theorem u_keyThatStays{a b:Value}(ha:CV E a)(hb:CV E b):U P E (Instr.keyThatStays a b) (CV E):=by
 unfold Instr.keyThatStays;refine U.ite (fun _=>.pure hb) fun _=>U.choose.bind fun n _=>.pure ?_;split
 ·exact hb
 ·exact ha
theorem mem_modify{γ:Type}{x:Array γ}{i:Nat}{f:γ→γ}{u:γ}(h:u∈x.modify i f):u∈x∨∃v∈x,u=f v:=by
 obtain⟨j,hj,rfl⟩:=Array.mem_iff_getElem.1 h;rw[Array.getElem_modify];split
 ·exact .inr ⟨_,Array.getElem_mem _,rfl⟩
 ·exact .inl (Array.getElem_mem _)
theorem u_mapUpdate(hG:E.A P.globals.size){t:TypeId}{m k v:Value}(hm:CV E m)(hk:CV E k)(hv:CV E v):U P E (Instr.mapUpdate t m k v) fun _=>True:=by
 unfold Instr.mapUpdate;refine(ae _).u.bind fun d hd=>?_;clear hd;split
 ·cases hm with
  |mapN=>exact ah hG _
  |map hr =>
   refine(U.getObj hr).bind fun o ho=>?_
   cases ho with
   |@map es clock h =>
    have hes:CEs E es.toList:=fun x hx=>h x (by simpa using hx);refine(iq hG _ _ _ _ hk).bind fun _ _=>(u_findKey hG hk hes).bind fun r hrr=>?_
    cases r with
    |none =>
     refine U.setObj hr (.map fun x hx=>?_) rfl;rcases Array.mem_push.1 hx with hx|rfl
     ·exact h x hx
     ·exact⟨hk,hv⟩
    |some p =>
     refine(u_keyThatStays ?_ hk).bind fun k2 hk2=>U.setObj hr (.map fun x hx=>?_) rfl
     ·cases he:es[p.1]? with
      |none=>exact hk
      |some e=>exact(h e (Array.mem_of_getElem? he)).1
     ·rcases mem_modify hx with hx|⟨y,hy,rfl⟩
      ·exact h x hx
      ·exact⟨hk2,hv⟩
   |_=>exact .stuck
  |_=>exact .stuck
 ·exact .stuck
theorem u_makeMap{t:TypeId}{r:Option Value}:U P E (Instr.makeMap t r) (CV E):=by
 unfold Instr.makeMap;have rest:U P E (do Pure.pure (Value.map (some (←newObj (.map #[] 0)))):Sem Value) (CV E):=(U.newObj (.map fun x hx=>by simp at hx)).bind fun r hr=>.pure (.map hr)
 cases r with
 |none=>exact rest
 |some h =>
  refine(ae _).u.bind fun d _=>?_;split
  ·exact(mP _).u.bind fun _ _=>rest
  ·exact U.bind (Q:=fun _:Unit=>True) .stuck fun _ _=>rest
theorem u_range{t:TypeId}{x:Value}(hx:CV E x):U P E (Instr.range t x) (CV E):=by
 unfold Instr.range;have fin:∀ o:Obj,CO E o→U P E (do Pure.pure (Value.pointer (some ⟨← newObj o,0,none⟩)):Sem Value) (CV E):=fun o ho=>(U.newObj ho).bind fun r hr=>.pure (.ptr hr);refine(ae _).u.bind fun d _=>?_;split
 ·exact fin _ (.stringIter _ _)
 ·exact fin _ .mapIterN
 ·have hr:=hx
  cases hr with
  |map hr =>
   refine(U.getObj hr).bind fun o ho=>?_
   cases ho with
   |map h=>exact fin _ (.mapIter hr)
   |_=>exact U.bind (Q:=CO E) .stuck fun o ho=>fin o ho
 ·exact U.bind (Q:=CO E) .stuck fun o ho=>fin o ho
theorem tuple1{a:Value}(ha:CV E a):CV E (.tuple #[a]):=.tuple fun u hu=>by simp at hu;subst hu;exact ha
theorem tuple2{a b:Value}(ha:CV E a)(hb:CV E b):CV E (.tuple #[a,b]):=.tuple fun u hu=>by
 simp at hu;rcases hu with rfl|rfl
 ·exact ha
 ·exact hb
theorem tuple3{a b c:Value}(ha:CV E a)(hb:CV E b)(hc:CV E c):CV E (.tuple #[a,b,c]):=.tuple fun u hu=>by
 simp at hu;rcases hu with rfl|rfl|rfl
 ·exact ha
 ·exact hb
 ·exact hc
theorem u_next{x:Value}{b:Bool}{t:TypeId}(hx:CV E x):U P E (Instr.next x b t) (CV E):=by
 unfold Instr.next
 dsimp only
 split
 ·rename_i r s;have hr:E.A r:=bW hx _ rfl;refine(U.getObj hr).bind fun o ho=>?_;split
  ·refine U.ite (fun _=>?_) fun _=>.pure (tuple1 (.bool _));exact(U.setObj hr (.stringIter _ _) rfl).bind fun _ _=>.pure (tuple3 (.bool _) (.int _ _) (.int _ _))
  ·exact .pure (tuple1 (.bool _))
  ·rename_i m since seen last
   have hm:E.A m:=by cases ho;assumption
   refine(U.getObj hm).bind fun o2 ho2=>?_
   cases ho2 with
   |@map es clock h =>
    have key:U P E (do
     let candidates:=(if (Array.filter (fun x=>decide (x.born<since)) (Array.filter (fun e=>!seen.contains e.born) es)).isEmpty=true then #[none] else #[])++Array.map some (Array.filter (fun x=>decide (x.born<since)) (Array.filter (fun e=>!seen.contains e.born) es)++Array.filter (fun x=>decide (x.born≥since)) (Array.filter (fun e=>!seen.contains e.born) es))
     match candidates[←choose (.mapNext candidates.size)]? with
     |some (some e) =>
      setObj r (.mapIter (some m) since (seen.push e.born) clock)
      Pure.pure (.tuple #[.bool true,e.key,e.val])
     |some none=>Pure.pure (.tuple #[.bool false])
     |none=>stuck "Next: no such candidate" : Sem Value) (CV E):=by
     refine U.choose.bind fun n _=>?_;split
     ·rename_i e he;have hmem:=Array.mem_of_getElem? he
      have:e∈es:=by
       rcases Array.mem_append.1 hmem with h1|h1
       ·split at h1
        ·simp at h1
        ·simp at h1
       ·obtain⟨y,hy,e2⟩:=Array.mem_map.1 h1;cases e2;rcases Array.mem_append.1 hy with h2|h2
        ·exact(Array.mem_filter.1 (Array.mem_filter.1 h2).1).1
        ·exact(Array.mem_filter.1 (Array.mem_filter.1 h2).1).1
      exact(U.setObj hr (.mapIter hm) rfl).bind fun _ _=>.pure (tuple3 (.bool _) (h e this).1 (h e this).2)
     ·exact .pure (tuple1 (.bool _))
     ·exact .stuck
    exact U.ite (fun _=>U.bind (Q:=fun _=>True) .unsupported fun _ _=>key) fun _=>key
   |_=>exact .stuck
  ·exact .stuck
 ·exact .stuck
theorem u_entry{x:Value}(hx:CV E x):U P E (Instr.entry x) (CV E):=by
 unfold Instr.entry;split
 ·rename_i r s;have hr:E.A r:=bW hx _ rfl;refine(U.getObj hr).bind fun o ho=>?_;split
  ·rename_i m a seen stepped
   have hm:E.A m:=by cases ho;assumption
   split
   ·refine(U.getObj hm).bind fun o2 ho2=>?_;split
    ·rename_i es clock
     have h:∀ x∈es,CV E x.key∧CV E x.val:=by cases ho2;assumption
     have key:∀ st:Nat,U P E (match es.find? (fun y=>y.born==st) with
      |some e=>Pure.pure (.tuple #[e.key,e.val])
      |none=>unsupported (.noEntry "instr/Entry.removed"):Sem Value) (CV E):=fun st=>by
      split
      ·rename_i e he;have:=Array.mem_of_find?_eq_some he;exact .pure (tuple2 (h e this).1 (h e this).2)
      ·exact .unsupported
     exact U.ite (fun _=>U.bind (Q:=fun _=>True) .unsupported fun _ _=>key _) fun _=>key _
    ·exact .stuck
   ·exact .stuck
  ·exact .stuck
 ·exact .stuck
end
end Cl
namespace Cl
open Conc Co
def Fl(v:Value):Prop:=∀ E,CV E v
def ZF(P:Program)(t:TypeId):Prop:=∀ E,ZC P E t
section
variable (P:Program)(A:Nat→Prop)(ok:FuncId→Prop)
def OkX:Operand→Prop
 |.tmp _=>True
 |.const v=>Fl v
 |.global g=>A g
 |.func f=>ok f
def OkM:Option Operand→Prop
 |none=>True
 |some x=>OkX A ok x
def lG(c:Call):Prop :=
 match c.callee with
 |.value x=>OkX A ok x∧∀ y∈c.args,OkX A ok y
 |.invoke _ _=>False
 |.builtin .len=>∀ y∈c.args,OkX A ok y
 |.builtin .append=>∃ x y t t2,c.args=#[x,y]∧c.argTypes=#[t,t2]∧(∀d,P.underlying t2=some d→∀ k,d≠.int k)∧(∀e,P.underlying t=some (.slice e)→ZF P e)∧OkX A ok x∧OkX A ok y
 |.builtin .copy=>∀ y∈c.args,OkX A ok y
 |.builtin .recover=>True
 |_=>False
def OkOp:Op→Prop
 |.move x|.assign x|.box _ x|.load _ x|.unOp _ _ x|.makeInterface _ x|.extract x _|.nilCheck x|.fieldAddr _ x _|.field _ x _|.range _ x|.next x _|.entry x=>OkX A ok x
 |.pick c a b=>OkX A ok c∧OkX A ok a∧OkX A ok b
 |.alloc t=>ZF P t
 |.build t parts=>ZF P t∧∀ x∈parts,OkX A ok x.2
 |.buildSlice t _ parts=>(∀e,P.underlying t=some (.slice e)→ZF P e)∧∀ x∈parts,OkX A ok x.2
 |.store _ a x=>OkX A ok a∧OkX A ok x
 |.binOp _ _ x y _=>OkX A ok x∧OkX A ok y
 |.convert s d x=>OkX A ok x∧ConvOk P s d
 |.makeFunc fn first captured=>(∃f,fn=.func f∧ok f)∧(∀x∈first,OkX A ok x)∧∀ x∈captured,OkX A ok x
 |.makeMap _ r=>True
 |.makeSlice t l c=>(∀e,P.underlying t=some (.slice e)→ZF P e)∧OkX A ok l∧OkX A ok c
 |.slice _ x lo hi mx=>OkX A ok x∧OkM A ok lo∧OkM A ok hi∧mx=none
 |.indexAddr _ x i|.index _ x i=>OkX A ok x∧OkX A ok i
 |.lookup t x i _=>OkX A ok x∧OkX A ok i∧∀ k e,P.underlying t=some (.map k e)→ZF P e
 |.mapUpdate _ m k v=>OkX A ok m∧OkX A ok k∧OkX A ok v
 |.call c=>lG P A ok c
 |.panic x=>OkX A ok x
 |.typeAssert x _ t _=>OkX A ok x∧ZF P t
 |.defer c=>(∃x,c.callee=.value x∧OkX A ok x)∧∀ y∈c.args,OkX A ok y
 |_=>False
def OkC:Code→Prop
 |.skip|.label _|.exit _|.ret|.goto _|.refuse _=>True
 |.region _ ops _=>∀ o∈ops,OkOp P A ok o.op
 |.seq a b=>OkC a∧OkC b
 |.cond c a b=>OkX A ok c∧OkC a∧OkC b
 |.block _ b|.loop b|.scope b=>OkC b
 |.rangeFunc f _ a b=>OkX A ok f∧OkC a∧OkC b
def EV:Ev:=⟨A,ok,OkC P A ok,fun f=>∃ F,P.funcs[f]? = some F⟩
def FOk(f:FuncId):Prop:=∃ fn,P.funcs[f]? = some fn∧(fn.name== "runtime.NumGoroutine")=false ∧
 ((∃c,fn.body=some c∧OkC P A ok c)∨fn.body=none∧Extern.findNext fn=none∧∃ e,Extern.find fn=some e∧∀ args,CA (EV P A ok) args→U P (EV P A ok) (e args) (CV (EV P A ok)))
structure Snd:Prop where
 types:A P.globals.size
 fns:∀ f,ok f→FOk P A ok f
end
section
variable {P:Program}{A:Nat→Prop}{ok:FuncId→Prop}{E:Ev}
def NextI(E:Ev):Next→Prop
 |.value v=>CV E v
 |.skip=>True
 |.enter f args=>E.ok f∧CA E args
 |.round l f tmps a b=>E.A l∧E.fn f∧CA E tmps∧E.code a∧E.code b
 |_=>False
def NextC(E:Ev):Next→Prop
 |.value v=>CV E v
 |.skip=>True
 |.enter f args=>E.ok f∧CA E args
 |.round l f tmps a b=>E.A l∧E.fn f∧CA E tmps∧E.code a∧E.code b
 |.defer d=>CD E d
 |.recover=>True
 |_=>False
theorem NextI.c:∀ {x:Next},NextI E x→NextC E x:=by
 intro x h
 cases x<;>first|exact h|exact h.elim
theorem gK{l:Nat}(h:E.A l):U P E (Instr.getLoop l) fun r=>CO E (.loop r):=by
 unfold Instr.getLoop;refine(U.getObj h).bind fun o ho=>?_
 cases ho with
 |loop a b c d e f=>exact .pure (.loop a b c d e f)
 |_=>exact .stuck
theorem u_enterLoop{fn:FuncId}{tmps:Array Value}{params:Array Tmp}{a b:Code}{around:Option Nat}(hf:E.fn fn)(ht:CA E tmps)(ha:E.code a)(hb:E.code b)(hl:∀ l,around=some l→E.A l) :
 U P E (Instr.enterLoop fn tmps params a b around) fun r=>E.A r.1∧∀ d∈r.2,CD E d:=by
 unfold Instr.enterLoop
 have fin:∀ p:Nat×List Deferred,E.A p.1→(∀d∈p.2,CD E d)→U P E (do Pure.pure (←newObj (.loop {state:=.ready,pending:=none,fn,tmps,params,assign:=a,body:=b,defers:=p.1}),p.2):Sem (Nat×List Deferred)) fun r=>E.A r.1∧∀ d∈r.2,CD E d :=
  fun p h1 h2=>(U.newObj (.loop ht hf ha hb (fun c e=>by cases e) h1)).bind fun r hr=>.pure ⟨hr,h2⟩
 cases around with
 |none =>
  refine(U.newObj (.deferred fun l e d hd=>by cases e;cases hd)).bind fun r hr=>fin (r,[{target:=.collected r,args:=#[]}]) hr fun d hd=>?_;rw[List.mem_singleton]at hd;subst hd;exact .mark hr
 |some l =>
  refine(gK (hl l rfl)).bind fun r hr=>fin (r.defers,[]) ?_ fun d hd=>by cases hd
  cases hr;assumption
theorem u_yield{l:Nat}{args:Array Value}(h:E.A l)(ha:CA E args):U P E (Instr.yield l args) (NextI E):=by
 unfold Instr.yield;refine(gK h).bind fun r hr=>?_
 have key:U P E (Pure.pure (.round l r.fn ((r.params.zip args).foldl (fun tmps x=>tmps.setIfInBounds x.1 x.2) r.tmps) r.assign r.body):Sem Next) (NextI E):=by
  cases hr with
  |loop a b c d e f =>
   refine .pure ⟨h,b,?_,c,d⟩;rw[←Array.foldl_toList]
   have:∀ (ps:List (Tmp×Value)) (x:Array Value),CA E x→(∀p∈ps,CV E p.2)→CA E (ps.foldl (fun tmps x=>tmps.setIfInBounds x.1 x.2) x):=by
    intro ps
    induction ps with
    |nil=>intro x hx _;exact hx
    |cons p ps ih=>intro x hx hp;exact ih _ (hx.set _ (hp p (by simp))) fun q hq=>hp q (by simp[hq])
   refine this _ _ a fun p hp=>?_;obtain⟨i,hi,e⟩:=Array.mem_iff_getElem.1 (Array.mem_def.2 hp);rw[Array.getElem_zip]at e;rw[←e];exact ha _ (Array.getElem_mem _)
 exact U.ite (fun _=>U.bind (Q:=fun _=>True) .stuck fun _ _=>key) fun _=>key
theorem u_beginRound(hG:E.A P.globals.size){l:Nat}(h:E.A l):U P E (Instr.beginRound l) fun _=>True:=by
 unfold Instr.beginRound;refine(gK h).bind fun r hr=>?_
 cases hr with
 |loop a b c d e f =>
  refine(U.setObj h (.loop (l:={r with state:=.busy}) a b c d e f) rfl).bind fun _ _=>?_;split
  ·exact .pure trivial
  ·exact ah hG _
  ·exact ah hG _
  ·exact ah hG _
theorem u_endRound{l:Nat}{j:Option Code}(h:E.A l)(hj:∀ c,j=some c→E.code c):U P E (Instr.endRound l j) (CV E):=by
 unfold Instr.endRound;refine(gK h).bind fun r hr=>?_
 cases hr with
 |loop a b c d e f=>exact(U.setObj h (.loop (l:={r with state:=if j.isNone then .ready else .done,pending:=j}) a b c d hj f) rfl).bind fun _ _=>.pure (.bool _)
theorem u_endLoop(hG:E.A P.globals.size){l:Nat}(h:E.A l):U P E (Instr.endLoop l) fun j=>∀ c,j=some c→E.code c:=by
 unfold Instr.endLoop;refine(gK h).bind fun r hr=>?_
 cases hr with
 |loop a b c d e f =>
  have key:U P E (do
   setObj l (.loop {r with state:=.exhausted})
   Pure.pure r.pending:Sem (Option Code)) fun j=>∀ c,j=some c→E.code c:=(U.setObj h (.loop (l:={r with state:=.exhausted}) a b c d e f) rfl).bind fun _ _=>.pure e
  exact U.ite (fun _=>U.bind (Q:=fun _=>True) (ah hG _) fun _ _=>key) fun _=>key
theorem u_takeDeferred{l:Nat}(h:E.A l):U P E (Instr.takeDeferred l) fun ds=>∀ d∈ds,CD E d:=by
 unfold Instr.takeDeferred;refine(U.getObj h).bind fun o ho=>?_;split
 ·rename_i ds
  have hd:∀ d∈ds,CD E d:=by
   cases ho with
   |deferred h=>exact h ds rfl
  exact(U.setObj h (.deferred fun l e=>by cases e) rfl).bind fun _ _=>.pure hd
 ·exact .stuck
theorem u_callFunc(hS:Snd P A ok){f:FuncId}{args:Array Value}(hf:ok f)(ha:CA (EV P A ok) args):U P (EV P A ok) (callFunc f args) (NextI (EV P A ok)):=by
 obtain⟨fn,h1,h2,h3⟩:=hS.fns f hf;unfold callFunc;refine(U.program (Q:=fun p=>p=P) rfl).bind fun p hp=>?_;subst hp;rw[h1]
 dsimp only
 rw[if_neg (by rw[h2];exact Bool.false_ne_true)];rcases h3 with⟨c,h4,h5⟩|⟨h4,h5,e,h6,h7⟩
 ·rw[h4,if_neg (by simp)];exact .pure ⟨hf,ha⟩
 ·rw[h4,if_pos (by simp)];refine(U.mark (.inr ⟨f,rfl⟩)).bind fun _ _=>?_;rw[h5]
  dsimp only
  rw[h6];exact(h7 args ha).bind fun v hv=>.pure hv
theorem u_invoke(hS:Snd P A ok){d:Deferred}(h:CD (EV P A ok) d∨∃l x,d.target=.fn (.yield l) x∧A l∧CA (EV P A ok) d.args):U P (EV P A ok) (invoke d.target d.args) (NextI (EV P A ok)):=by
 rcases h with h|⟨l,x,e,hl,ha⟩
 ·cases h with
  |fn hf hx hy=>exact u_callFunc hS hf (hy.append hx)
  |mark=>exact .stuck
  |nil=>exact ah hS.types .nilDeref
  |yield hl ha=>exact u_yield hl ha
 ·rw[e];exact u_yield hl ha
theorem lD{ρ:Operand→Value}(hρ:∀ x,OkX A ok x→CV E (ρ x)){l:Array Operand}(h:∀ x∈l,OkX A ok x):CA E (l.map ρ):=fun u hu=>by
 obtain⟨x,hx,rfl⟩:=Array.mem_map.1 hu;exact hρ x (h x hx)
theorem ca_parts{ρ:Operand→Value}(hρ:∀ x,OkX A ok x→CV E (ρ x)){l:Array (Nat×Operand)}(h:∀ x∈l,OkX A ok x.2):∀ p∈l.map (fun x=>(x.1,ρ x.2)),CV E p.2:=fun u hu=>by
 obtain⟨x,hx,rfl⟩:=Array.mem_map.1 hu;exact hρ _ (h x hx)
theorem U.val{s:Sem Value}(h:U P E s (CV E)):U P E (do Pure.pure (Next.value (←s)):Sem Next) (NextC E):=h.bind fun v hv=>.pure hv
theorem U.unit{s:Sem Unit}(h:U P E s fun _=>True):U P E (do s;Pure.pure Next.skip:Sem Next) (NextC E):=h.bind fun v hv=>.pure trivial
theorem u_callValue(hS:Snd P A ok){v:Value}{args:Array Value}(hv:CV (EV P A ok) v)(ha:CA (EV P A ok) args):U P (EV P A ok) (do let d ←Deferred.ofValue v args;invoke d.target d.args) (NextI (EV P A ok)):=by
 cases hv with
 |func hf hx hy=>exact u_invoke hS (.inl (.fn hf hy (CA.append hx ha)))
 |yield hl hx hy=>exact u_invoke hS (d:=⟨.fn (.yield _) _,_⟩) (.inr ⟨_,_,rfl,hl,CA.append hx ha⟩)
 |nilFunc=>exact ah hS.types .nilDeref
 |_=>exact .stuck
theorem u_panic(hG:E.A P.globals.size){x:Value}(hx:CV E x):U P E (Instr.panic x) (CV E):=by
 unfold Instr.panic
 cases hx with
 |iface h=>exact .goPanic (.iface h)
 |nilIface =>
  refine U.bind (Q:=fun _=>True) ?_ fun n _=>U.ite (fun _=>.goPanic .nilIface) fun _=>ah hG _;unfold Instr.panicnil;refine U.env.bind fun r _=>?_;split
  ·exact(U.program (Q:=fun _=>True) trivial).bind fun _ _=>.pure trivial
  ·exact .stuck
 |_=>exact .stuck
theorem u_typeAssert(hG:E.A P.globals.size){x:Value}{xt t:TypeId}{b:Bool}(hx:CV E x)(hz:ZC P E t):U P E (Instr.typeAssert x xt t b) (CV E):=by
 unfold Instr.typeAssert
 have holds:∀ v,CV E v→U P E (Pure.pure (if b then .tuple #[v,.bool true] else v):Sem Value) (CV E):=fun v hv=>.pure (by
  split
  ·exact tuple2 hv (.bool _)
  ·exact hv)
 have fails:∀ s d m,U P E (if b then do Pure.pure (.tuple #[←zeroValue t,.bool false]) else runtimePanic (.typeAssertion s d t m):Sem Value) (CV E):=fun s d m =>
  U.ite (fun _=>(iL hz).u.bind fun z hz=>.pure (tuple2 hz (.bool _))) fun _=>ah hG _
 refine(ae t).u.bind fun d _=>?_
 dsimp only
 split
 ·exact fails _ _ _
 ·refine(aZ _).u.bind fun i _=>?_;split
  ·exact holds _ hx
  ·exact fails _ _ _
 ·exact fails _ _ _
 ·cases hx with
  |iface h =>
   split
   ·exact holds _ h
   ·exact fails _ _ _
 ·exact .stuck
theorem u_resolve{v:Value}{args:Array Value}(hv:CV E v)(ha:CA E args):U P E (Deferred.ofValue v args) (CD E):=by
 unfold Deferred.ofValue
 cases hv with
 |func hf hx hy=>exact .pure (.fn hf hy (CA.append hx ha))
 |yield hl hx hy=>exact .pure (.yield hl (CA.append hx ha))
 |nilFunc=>exact .pure .nil
 |_=>exact .stuck
theorem u_deferInRound{l:Nat}{d:Deferred}(h:E.A l)(hd:CD E d):U P E (Instr.deferInRound l d) fun _=>True:=by
 unfold Instr.deferInRound;refine(gK h).bind fun r hr=>?_
 cases hr with
 |loop a b c d' e f =>
  refine(U.getObj f).bind fun o ho=>?_;split
  ·rename_i ds;refine U.setObj f (.deferred fun l' e x hx=>?_) rfl;cases e;rcases List.mem_cons.1 hx with rfl|hx
   ·exact hd
   ·cases ho with
    |deferred h=>exact h ds rfl x hx
  ·exact .throw
  ·exact .stuck
theorem u_execOp(hS:Snd P A ok){ρ:Operand→Value}(hρ:∀ x,OkX A ok x→CV (EV P A ok) (ρ x)){o:Oper}(ho:OkOp P A ok o.op):U P (EV P A ok) (execOp ρ o) (NextC (EV P A ok)):=by
 obtain⟨dst,op,type,pos,after,guard⟩:=o;have hG:(EV P A ok).A P.globals.size:=hS.types;unfold execOp
 cases op with
 |move x=>exact .pure (hρ x ho)
 |assign x=>exact .pure (hρ x ho)
 |pick c a b =>
  refine(pu_asBool _).u.bind fun t _=>.pure ?_;show CV _ _;split
  ·exact hρ a ho.2.1
  ·exact hρ b ho.2.2
 |alloc t=>exact(u_alloc (ho _)).val
 |box t x=>exact(u_box (hρ x ho)).val
 |build t parts=>exact(u_build (ho.1 _) (ca_parts hρ ho.2)).val
 |buildSlice t n parts=>exact(u_buildSlice (fun e he=>ho.1 e he _) (ca_parts hρ ho.2)).val
 |load t x=>exact(u_loadAt (hρ x ho)).val
 |store t a x=>exact(u_storeAt (hρ a ho.1) (hρ x ho.2)).unit
 |nilCheck x =>
  have hx:=hρ x ho
  dsimp only
  generalize ρ x=v at hx
  cases hx with
  |ptrN=>exact ah hG _
  |nilIface=>exact ah hG _
  |nilFunc=>exact ah hG _
  |bool=>exact .pure (.bool _)
  |int=>exact .pure (.int _ _)
  |string=>exact .pure (.string _)
  |ptr h=>exact .pure (.ptr h)
  |sliceN=>exact .pure (.sliceN _ _)
  |slice h=>exact .pure (.slice h)
  |mapN=>exact .pure .mapN
  |map h=>exact .pure (.map h)
  |chanN=>exact .pure .chanN
  |chan h=>exact .pure (.chan h)
  |func h a b=>exact .pure (.func h a b)
  |yield h a b=>exact .pure (.yield h a b)
  |iface h=>exact .pure (.iface h)
  |agg h=>exact .pure (.agg h)
  |tuple h=>exact .pure (.tuple h)
 |binOp op t x y t2=>exact U.val ((u_eqGuard (hρ x ho.1) (hρ y ho.2)).bind fun _ _=>u_binOp hG (hρ x ho.1) (hρ y ho.2))
 |unOp op t x=>exact(u_unary (hρ x ho)).val
 |convert s d x=>exact(u_convert ho.2 (hρ x ho.1)).val
 |makeInterface t x=>exact(u_makeInterface (hρ x ho)).val
 |makeFunc fn first captured =>
  obtain⟨⟨f,rfl,hf⟩,h1,h2⟩:=ho;exact U.val (.pure (.func hf (lD hρ h1) (lD hρ h2)))
 |makeMap t r=>exact u_makeMap.val
 |makeSlice t l c=>exact(u_makeSlice hG fun e he=>ho.1 e he _).val
 |slice t x lo hi mx =>
  obtain⟨h1,-,-,rfl⟩:=ho;exact(u_sliceAt hG (hρ x h1) _ _).val
 |fieldAddr t x f=>exact(u_fieldAt (hρ x ho) f).val
 |field t x f=>exact(u_field (hρ x ho) f).val
 |indexAddr t x i=>exact(u_indexAt hG (hρ x ho.1)).val
 |index t x i=>exact(u_index hG (hρ x ho.1)).val
 |lookup t x i b=>exact(u_lookup hG (hρ x ho.1) (hρ i ho.2.1) fun k e he=>ho.2.2 k e he _).val
 |mapUpdate t m k v=>exact(u_mapUpdate hG (hρ m ho.1) (hρ k ho.2.1) (hρ v ho.2.2)).unit
 |range t x=>exact(u_range (hρ x ho)).val
 |next x b=>exact(u_next (hρ x ho)).val
 |entry x=>exact(u_entry (hρ x ho)).val
 |extract x i=>exact(u_extract (hρ x ho) i).val
 |panic x=>exact(u_panic hG (hρ x ho)).val
 |typeAssert x xt t b=>exact(u_typeAssert hG (hρ x ho.1) (ho.2 _)).val
 |defer c =>
  obtain⟨callee,args,argTypes⟩:=c;obtain⟨⟨x,hx,hxo⟩,ha⟩:=ho
  dsimp only at hx
  subst hx
  dsimp only
  unfold resolve;exact(u_resolve (hρ x hxo) (lD hρ ha)).bind fun d hd=>.pure hd
 |call c =>
  obtain⟨callee,args,argTypes⟩:=c
  dsimp only
  unfold resolve
  cases callee with
  |value x=>exact(u_callValue hS (hρ x ho.1) (lD hρ ho.2)).mono fun _ h=>h.c
  |invoke r m=>exact ho.elim
  |builtin b =>
   cases b with
   |len=>exact(u_len (lD hρ ho)).val
   |copy=>exact(u_copy (lD hρ ho)).val
   |recover=>exact U.bind (Q:=fun d=>d={target:=Target.builtin .recover argTypes type (args.map fun|.const _=>true|_=>false),args:=args.map ρ}) (.pure rfl) fun d hd=>by subst hd;exact .pure trivial
   |append =>
    obtain⟨x,y,t,t2,h1,h2,h3,h4,h5,h6⟩:=ho;simp only at h1 h2;subst h1 h2;refine U.bind (Q:=fun d=>d={target:=Target.builtin .append #[t,t2] type (#[x,y].map fun|.const _=>true|_=>false),args:=#[x,y].map ρ}) (.pure rfl) fun d hd=>?_;subst hd;simp only[List.map_toArray,List.map_cons,List.map_nil];exact(u_append hG (hρ x h5) (hρ y h6) h3 fun e he=>h4 e he _).val
   |_=>exact ho.elim
 |_=>exact ho.elim
end
end Cl
namespace Co
variable {P:Program}{E:Env}{f:Fm}
inductive NR (E:Env) (f:Fm):Next→Next→Prop
 |value {v v':Value} (h:VR E.ok f v v'):NR E f (.value v) (.value v')
 |skip:NR E f .skip .skip
 |enter {i:FuncId} {a a':Array Value} (h:E.ok i=true) (ha:AR E.ok f a a'):NR E f (.enter i a) (.enter i a')
def OkX(E:Env):Operand→Prop
 |.tmp _=>True
 |.const v=>Flat v
 |.global _=>False
 |.func i=>E.ok i=true
def EvR(E:Env)(f:Fm)(ρ ρ':Operand→Value):Prop:=∀ x,OkX E x→VR E.ok f (ρ x) (ρ' x)
theorem EvR.mono{g:Fm}(h:f.le g){ρ ρ':Operand→Value}(r:EvR E f ρ ρ'):EvR E g ρ ρ':=fun x hx=>(r x hx).mono h
abbrev VV(E:Env):Fm→Value→Value→Prop:=fun g v v'=>VR E.ok g v v'
abbrev NN(E:Env):Fm→Next→Next→Prop:=fun g a b=>NR E g a b
theorem SRel.val{s t:Sem Value}(h:SRel P E f s t (VV E)):SRel P E f (do Pure.pure (Next.value (←s))) (do Pure.pure (Next.value (←t))) (NN E) :=
 h.bind fun g hg a b hab=>SRel.pure fun g1 hg1=>.value (hab.mono hg1)
theorem SRel.unit{s t:Sem Unit}(h:SRel P E f s t (fun _ _ _=>True)):SRel P E f (do s;Pure.pure Next.skip) (do t;Pure.pure Next.skip) (NN E) :=
 h.bind fun g hg a b hab=>SRel.pure fun g1 hg1=>.skip
theorem SRel.under{t:TypeId}{d:TypeDesc}(h:P.underlying t=some d):SRel P E f (underlying t) (underlying t) (fun _ a b=>a=d∧b=d):=by
 intro g hg w w' hw a w2 hr;obtain⟨g1,b,w2',n,k1,k2,k3,k4,k5⟩:=SRel.det (E:=E) (f:=f) (eF (P:=P) t) g hg w w' hw _ _ hr;unfold underlying at hr;rw[Sem.run_bind]at hr;have e:(Go.program).run P w=.ok P w:=rfl;rw[e,Result.andThen_ok,h]at hr;cases hr;exact⟨g1,b,w2',n,k1,k2,⟨rfl,k3.symm⟩,k4,k5⟩
theorem SRel.size{t:TypeId}(h:∀ i,P.info? t=some i→i.size≠0):SRel P E f (sizeOf t) (sizeOf t) (fun _ a b=>a=b∧a≠0):=by
 intro g hg w w' hw a w2 hr;obtain⟨g1,b,w2',n,k1,k2,k3,k4,k5⟩:=SRel.det (E:=E) (f:=f) (aU (P:=P) t) g hg w w' hw _ _ hr;refine⟨g1,b,w2',n,k1,k2,⟨k3,?_⟩,k4,k5⟩;unfold sizeOf at hr;rw[Sem.run_bind,jM]at hr
 cases hi:P.info? t with
 |none=>rw[hi]at hr;cases hr
 |some i =>
  rw[hi]at hr;cases hr;exact h i hi
theorem op_pick{ρ ρ':Operand→Value}(h:EvR E f ρ ρ'){c a b:Operand}(hc:OkX E c)(ha:OkX E a)(hb:OkX E b) :
 SRel P E f (do Pure.pure (Next.value (if ←Go.asBool (ρ c) then ρ a else ρ b))) (do Pure.pure (Next.value (if ←Go.asBool (ρ' c) then ρ' a else ρ' b))) (NN E):=by
 refine(SRel.asBool (h c hc)).bind fun g hg x y e=>SRel.pure fun g1 hg1=>?_;subst e;have h1:=h.mono (Fm.le_trans hg hg1);split
 ·exact .value (h1 a ha)
 ·exact .value (h1 b hb)
theorem op_alloc{t:TypeId}(hz:ZFlat P t):SRel P E f (Instr.alloc t true (.tuple #[])) (Instr.alloc t true (.tuple #[])) (VV E):=by
 unfold Instr.alloc;refine(SRel.zero hz).bind fun g hg v v' h=>?_;obtain⟨rfl,hv⟩:=h;exact(SRel.newVar (hv E.ok g)).bind fun g1 hg1 a a' ha=>SRel.pure fun g2 hg2=>(ha.mono hg2).ptr
theorem op_box{t:TypeId}{v v':Value}(h:VR E.ok f v v'):SRel P E f (Instr.box t v) (Instr.box t v') (VV E) :=
 (SRel.newVar h).bind fun g1 hg1 a a' ha=>SRel.pure fun g2 hg2=>(ha.mono hg2).ptr
theorem fold_rel(off:Nat):∀ (l l':List Value) (j:Nat) (c c':Array Value),LR E.ok f l l'→AR E.ok f c c' →
 AR E.ok f ((l.zipIdx j).foldl (fun cs (x:Value×Nat)=>cs.setIfInBounds (off+x.2) x.1) c) ((l'.zipIdx j).foldl (fun cs (x:Value×Nat)=>cs.setIfInBounds (off+x.2) x.1) c'):=by
 intro l
 induction l with
 |nil =>
  intro l' j c c' hl hc;obtain rfl:=hl.nil_inv;exact hc
 |cons v l ih =>
  intro l' j c c' hl hc;obtain⟨v',m,rfl,hv,hm⟩:=hl.cons_inv;simp only[List.zipIdx_cons,List.foldl_cons];exact ih m (j+1) _ _ hm (hc.set _ hv)
theorem fill_rel{ρ ρ':Operand→Value}(h:EvR E f ρ ρ')(place:Nat→Option (Nat×Nat)):∀ (l:List (Nat×Operand)) (c c':Array Value),(∀x∈l,OkX E x.2)→AR E.ok f c c' →
 ∀out,Instr.fill place c (l.map fun x=>(x.1,ρ x.2))=some out→∃ out',Instr.fill place c' (l.map fun x=>(x.1,ρ' x.2))=some out'∧AR E.ok f out out':=by
 intro l
 induction l with
 |nil =>
  intro c c' hl hc out ho;cases ho;exact⟨c',rfl,hc⟩
 |cons x l ih =>
  intro c c' hl hc out ho;simp only[List.map_cons,Instr.fill]at ho⊢;have hv:=h x.2 (hl x (List.mem_cons_self ..))
  cases hp:place x.1 with
  |none=>rw[hp]at ho;cases ho
  |some os =>
   obtain⟨o,s⟩:=os;rw[hp]at ho;simp only at ho⊢;rw[←hv.cells.size,←hc.size];split at ho
   ·cases ho
   ·rename_i hcond;rw[if_neg hcond];refine ih _ _ (fun y hy=>hl y (List.mem_cons_of_mem _ hy)) ?_ out ho;have:=fold_rel (E:=E) (f:=f) o (ρ x.2).cells.toList (ρ' x.2).cells.toList 0 c c' hv.cells.list hc;rw[←Array.foldl_toList,←Array.foldl_toList,Array.toList_zipIdx,Array.toList_zipIdx];exact this
theorem op_build{ρ ρ':Operand→Value}(h:EvR E f ρ ρ'){t:TypeId}{parts:Array (Nat×Operand)}(hz:ZFlat P t)(hp:∀ x∈parts,OkX E x.2) :
 SRel P E f (Instr.build t (parts.map fun x=>(x.1,ρ x.2))) (Instr.build t (parts.map fun x=>(x.1,ρ' x.2))) (VV E):=by
 unfold Instr.build;refine(SRel.zero hz).bind fun g hg v v' hv=>?_;obtain⟨rfl,hv⟩:=hv;refine(SRel.det (eF t)).bind fun g1 hg1 d d' e=>?_;subst e;have hgg:=Fm.le_trans hg hg1
 have key:∀ place (g2:Fm),f.le g2→SRel P E g2 (match Instr.fill place v.cells (parts.map fun x=>(x.1,ρ x.2)).toList with|some cells=>(Pure.pure (.agg cells):Sem Value)|_=>Go.stuck "build: no such field, or a part of the wrong size")
  (match Instr.fill place v.cells (parts.map fun x=>(x.1,ρ' x.2)).toList with|some cells=>(Pure.pure (.agg cells):Sem Value)|_=>Go.stuck "build: no such field, or a part of the wrong size") (VV E):=by
  intro place g2 hg2;rw[Array.toList_map,Array.toList_map]
  cases ho:Instr.fill place v.cells (parts.toList.map fun x=>(x.1,ρ x.2)) with
  |none=>exact SRel.stuck
  |some out =>
   obtain⟨out',h1,h2⟩:=fill_rel (h.mono hg2) place parts.toList v.cells v.cells (fun x hx=>hp x (Array.mem_toList_iff.1 hx)) ((hv E.ok g2).cells) out ho;rw[h1];exact SRel.pure fun g3 hg3=>(h2.mono hg3).agg
 cases d with
 |struct fields =>
  have hdet:Det P (fields.mapM fun f=>do Pure.pure (f.offset,←sizeOf f.type):Sem (Array (Nat×Nat))):=by
   rw[Array.mapM_eq_mapM_toList];refine Det.bind ?_ fun _=>eG _;generalize fields.toList=l
   induction l with
   |nil=>exact eG _
   |cons x l ih =>
    rw[List.mapM_cons];exact((aU _).bind fun _=>eG _).bind fun _=>ih.bind fun _=>eG _
  refine(SRel.det hdet).bind fun g2 hg2 q q' e=>?_;subst e;exact key _ g2 (Fm.le_trans hgg hg2)
 |array n el =>
  refine(SRel.det (aU el)).bind fun g2 hg2 q q' e=>?_;subst e;have:=key (fun i=>some (i*q,q)) g2 (Fm.le_trans hgg hg2)
  revert this
  cases ho:Instr.fill (fun i=>some (i*q,q)) v.cells (parts.map fun x=>(x.1,ρ x.2)).toList<;>cases ho':Instr.fill (fun i=>some (i*q,q)) v.cells (parts.map fun x=>(x.1,ρ' x.2)).toList
  ·intro _;exact SRel.stuck
  ·intro _;exact SRel.stuck
  ·intro hh;intro g3 hg3 w w' hw a w2 hr
   exact hh g3 hg3 w w' hw a w2 hr |>.elim fun h b=>by
    obtain⟨b,w2',new,k1,-⟩:=b;have:=k1 #[];cases this
  ·exact id
 |_=>exact SRel.stuck
end Co
namespace Co
variable {P:Program}{E:Env}{f:Fm}
def jy(P:Program)(t:TypeId):Prop:=∀ i v,P.info? t=some i→i.zero=some v→∀ u∈v.cells,Flat u
theorem dm:Flat (undef:Value):=fun ok f=>.tuple rfl (fun i u u' h=>by simp at h)
theorem SRel.zeroC{t:TypeId}(h:jy P t):SRel P E f (zeroValue t) (zeroValue t) (fun _ a b=>a=b∧∀ u∈a.cells,Flat u):=by
 intro g hg w w' hw a w2 hr;obtain⟨g1,b,w2',n,k1,k2,k3,k4,k5⟩:=SRel.det (E:=E) (f:=f) (kU (P:=P) t) g hg w w' hw _ _ hr;refine⟨g1,b,w2',n,k1,k2,⟨k3,?_⟩,k4,k5⟩;unfold zeroValue at hr;rw[Sem.run_bind,jM]at hr
 cases hi:P.info? t with
 |none=>rw[hi]at hr;cases hr
 |some i =>
  rw[hi]at hr;simp only[Result.andThen_ok]at hr
  cases hz:i.zero with
  |none=>rw[hz]at hr;cases hr
  |some v =>
   rw[hz]at hr;cases hr;exact h i _ hi hz
theorem default_flat:Flat (default:Value):=fun ok f=>.bool _
theorem kZ{z:Array Value}(h:∀ u∈z,Flat u)(n:Nat):∀ u∈(Array.range n).map (fun i=>z[i%z.size]!),Flat u:=by
 intro u hu;obtain⟨i,-,rfl⟩:=Array.mem_map.1 hu;by_cases hz:i%z.size<z.size
 ·rw[getElem!_pos z _ hz];exact h _ (Array.getElem_mem hz)
 ·rw[getElem!_neg z _ hz];exact default_flat
theorem op_buildSlice{ρ ρ':Operand→Value}(h:EvR E f ρ ρ'){t e:TypeId}{len:Nat}{parts:Array (Nat×Operand)}(ht:P.underlying t=some (.slice e))(hz:jy P e)(hp:∀ x∈parts,OkX E x.2) :
 SRel P E f (Instr.buildSlice t len (parts.map fun x=>(x.1,ρ x.2))) (Instr.buildSlice t len (parts.map fun x=>(x.1,ρ' x.2))) (VV E):=by
 unfold Instr.buildSlice;refine(SRel.under ht).bind fun g hg d d' e=>?_;obtain⟨rfl,rfl⟩:=e
 dsimp only
 refine(SRel.det (aU _)).bind fun g1 hg1 n n' e=>?_;subst e;have hgg:=Fm.le_trans hg hg1;split
 ·exact SRel.never (Never.bind1 Never.halt)
 ·have key:∀ (z:Array Value) (g2:Fm),f.le g2→(∀u∈z,Flat u)→SRel P E g2
   (match Instr.fill (fun i=>some (i*n,n)) (Array.map (fun x=>z[x%z.size]!) (Array.range (len*n))) (Array.map (fun x=>(x.fst,ρ x.snd)) parts).toList with
    |some cells=>do Pure.pure (Value.slice (some (←Go.newRow e cells)) len len)
    |x=>Go.stuck "buildSlice: a part of the wrong size")
   (match Instr.fill (fun i=>some (i*n,n)) (Array.map (fun x=>z[x%z.size]!) (Array.range (len*n))) (Array.map (fun x=>(x.fst,ρ' x.snd)) parts).toList with
    |some cells=>do Pure.pure (Value.slice (some (←Go.newRow e cells)) len len)
    |x=>Go.stuck "buildSlice: a part of the wrong size") (VV E):=by
   intro z g2 hg2 hzf;rw[Array.toList_map,Array.toList_map]
   cases ho:Instr.fill (fun i=>some (i*n,n)) (Array.map (fun x=>z[x%z.size]!) (Array.range (len*n))) (parts.toList.map fun x=>(x.1,ρ x.2)) with
   |none=>exact SRel.stuck
   |some out =>
    obtain⟨out',h1,h2⟩:=fill_rel (h.mono hg2) _ parts.toList _ _ (fun x hx=>hp x (Array.mem_toList_iff.1 hx)) (AR.flat (kZ hzf _)) out ho;rw[h1];exact(SRel.newRow h2).bind fun g3 hg3 a a' ha=>SRel.pure fun g4 hg4=>(ha.mono hg4).slice _ _
  split
  ·exact(SRel.pure (R:=fun _ a b=>a=b∧∀ u∈a,Flat u) (fun _ _=>⟨rfl,fun u hu=>by simp at hu⟩)).bind fun g2 hg2 z z' hzz=>by
    obtain⟨rfl,hzf⟩:=hzz;exact key z g2 (Fm.le_trans hgg hg2) hzf
  ·refine(SRel.zeroC hz).bind fun g2 hg2 v v' hv=>?_;obtain⟨rfl,hv⟩:=hv
   exact(SRel.pure (R:=fun _ a b=>a=b∧∀ u∈a,Flat u) (fun _ _=>⟨rfl,hv⟩)).bind fun g3 hg3 z z' hzz=>by
    obtain⟨rfl,hzf⟩:=hzz;exact key z g3 (Fm.le_trans hgg (Fm.le_trans hg2 hg3)) hzf
theorem SRel.addr{b b' o:Nat}{s:Option Nat}(h:f b=some b'):SRel P E f (Pure.pure (⟨b,o,s⟩:Addr)) (Pure.pure (⟨b',o,s⟩:Addr)) (fun g x y=>DR g x y):=SRel.pure fun g hg=>⟨hg _ _ h,rfl,rfl⟩
theorem op_loadAt{t:TypeId}{v v':Value}(h:VR E.ok f v v'):SRel P E f (Instr.loadAt t v) (Instr.loadAt t v') (VV E):=by
 unfold Instr.loadAt Instr.sureAddr
 cases h with
 |ptr h=>exact(SRel.addr h).bind fun g hg a a' ha=>SRel.loadVar ha
 |_=>exact SRel.never (Never.bind1 Never.halt)
theorem op_storeAt{t:TypeId}{a a' v v':Value}(h:VR E.ok f a a')(hv:VR E.ok f v v'):SRel P E f (Instr.storeAt t a v) (Instr.storeAt t a' v') (fun _ _ _=>True):=by
 unfold Instr.storeAt Instr.sureAddr
 cases h with
 |ptr h=>exact(SRel.addr h).bind fun g hg a a' ha=>SRel.storeVar ha (hv.mono hg)
 |_=>exact SRel.never (Never.bind1 Never.halt)
def FieldOk(P:Program)(s:TypeId)(i:Nat):Prop:=∃ fs fd,P.underlying s=some (.struct fs)∧fs[i]? = some fd∧∀ inf,P.info? fd.type=some inf→inf.size≠0
theorem op_fieldAt{s:TypeId}{i:Nat}{v v':Value}(hf:FieldOk P s i)(h:VR E.ok f v v'):SRel P E f (Instr.fieldAt s v i) (Instr.fieldAt s v' i) (VV E):=by
 obtain⟨fs,fd,h1,h2,h3⟩:=hf;unfold Instr.fieldAt;refine(SRel.under h1).bind fun g hg d d' e=>?_;obtain⟨rfl,rfl⟩:=e
 dsimp only
 rw[h2]
 dsimp only
 unfold Instr.sureAddr
 cases h with
 |ptr h =>
  refine(SRel.addr (hg _ _ h)).bind fun g1 hg1 a a' ha=>?_;unfold fieldPlace
  have h4:SRel P E g1 (do if (←sizeOf fd.type)=0 then partAt a fd.offset fd.byteOffset else Pure.pure (a.add fd.offset)) (do if (←sizeOf fd.type)=0 then partAt a' fd.offset fd.byteOffset else Pure.pure (a'.add fd.offset)) (fun g x y=>DR g x y):=by
   refine(SRel.size h3).bind fun g2 hg2 n n' e=>?_;obtain⟨rfl,hn⟩:=e;rw[if_neg hn,if_neg hn];exact SRel.pure fun g3 hg3=>((ha.mono (Fm.le_trans hg2 hg3)).add _)
  exact h4.bind fun g2 hg2 x y hxy=>SRel.pure fun g3 hg3=>(hxy.mono hg3).ptr
 |_=>exact SRel.never (Never.bind1 Never.halt)
theorem op_indexAt{t e:TypeId}{x x' i i':Value}(ht:P.underlying t=some (.slice e))(hx:VR E.ok f x x')(hi:VR E.ok f i i'):SRel P E f (Instr.indexAt t x i) (Instr.indexAt t x' i') (VV E):=by
 unfold Instr.indexAt;refine(SRel.asIntOf hi).bind fun g hg q q' e=>?_;subst e;obtain⟨k,n⟩:=q
 dsimp only
 refine(SRel.under ht).bind fun g1 hg1 d d' e=>?_;obtain⟨rfl,rfl⟩:=e;have hgg:=Fm.le_trans hg hg1
 cases hx with
 |sliceN l c =>
  dsimp only
  refine(SRel.pure (R:=fun _ a b=>a=b∧a=(none,l,e)) (fun _ _=>⟨rfl,rfl⟩)).bind fun g2 hg2 a b hab=>?_;obtain⟨rfl,rfl⟩:=hab
  dsimp only
  exact SRel.never (Never.bind fun _=>bg _ _ _ _)
 |@slice b b' o s l c h =>
  dsimp only
  refine(SRel.pure (R:=fun g a b=>∃ x y,a=(some x,l,e)∧b=(some y,l,e)∧DR g x y) (fun g2 hg2=>⟨⟨b,o,s⟩,⟨b',o,s⟩,rfl,rfl,hg2 _ _ (hgg _ _ h),rfl,rfl⟩)).bind fun g2 hg2 a b hab=>?_;obtain⟨x,y,rfl,rfl,hd⟩:=hab
  dsimp only
  refine(SRel.under ht).bind fun g3 hg3 d d' e'=>?_;obtain⟨rfl,rfl⟩:=e'
  dsimp only
  split
  ·exact(SRel.det (aU e)).bind fun g4 hg4 m m' em=>by
    subst em;exact SRel.pure fun g5 hg5=>((hd.mono (Fm.le_trans hg3 (Fm.le_trans hg4 hg5))).add _).ptr
  ·split
   ·exact SRel.unsupported
   ·exact SRel.never (bg _ _ _ _)
 |slice0 a a' =>
  dsimp only
  refine(SRel.pure (R:=fun _ x y=>x=(some a,0,e)∧y=(some a',0,e)) (fun _ _=>⟨rfl,rfl⟩)).bind fun g2 hg2 x y hxy=>?_;obtain⟨rfl,rfl⟩:=hxy
  dsimp only
  refine SRel.never (Never.bind fun d=>?_);rw[if_neg (by omega)];split
  ·exact Never.halt
  ·exact bg _ _ _ _
 |_=>exact SRel.never (Never.bind1 Never.halt)
theorem op_extract{v v':Value}(h:VR E.ok f v v')(i:Nat):SRel P E f (Instr.extract v i) (Instr.extract v' i) (VV E):=by
 unfold Instr.extract
 cases h with
 |@tuple x x' hs he =>
  dsimp only
  cases hx:x[i]? with
  |none=>exact SRel.stuck
  |some u =>
   obtain⟨u',h1,h2⟩:=AR.get ⟨hs,he⟩ hx;rw[h1];exact SRel.pure fun g hg=>h2.mono hg
 |_=>exact SRel.stuck
theorem nP{t:TypeId}{v v':Value}(h:VR E.ok f v v'):SRel P E f (Instr.makeInterface t v) (Instr.makeInterface t v') (VV E):=by
 unfold Instr.makeInterface;refine(SRel.det (eF t)).bind fun g hg d d' e=>?_;subst e
 cases d with
 |interface=>exact SRel.stuck
 |_=>exact SRel.pure fun g1 hg1=>.iface (h.mono (Fm.le_trans hg hg1))
theorem SRel.sliceBound{v v':Value}(h:VR E.ok f v v')(y:Nat)(c:BoundsCode):SRel P E f (Instr.sliceBound v y c) (Instr.sliceBound v' y c) (fun _ a b=>a=b∧a≤y):=by
 unfold Instr.sliceBound;refine(SRel.asIntOf h).bind fun g hg q q' e=>?_;subst e;obtain⟨k,n⟩:=q
 dsimp only
 split
 ·rename_i h;exact SRel.pure fun _ _=>⟨rfl,by omega⟩
 ·exact SRel.never (bg _ _ _ _)
def MR(ok:FuncId→Bool)(f:Fm):Option Value→Option Value→Prop
 |none,none=>True
 |some v,some v'=>VR ok f v v'
 |_,_=>False
theorem MR.mono{ok:FuncId→Bool}{g:Fm}(h:f.le g){a b:Option Value}(r:MR ok f a b):MR ok g a b:=by
 cases a<;>cases b<;>first|exact r|exact VR.mono h r
theorem SRel.sliceBounds(b:Bool)(len cap:Nat){lo lo' hi hi':Option Value}(hlo:MR E.ok f lo lo')(hhi:MR E.ok f hi hi'):SRel P E f (Instr.sliceBounds b len cap lo hi none) (Instr.sliceBounds b len cap lo' hi' none) (fun _ a b=>a=b∧a.2.2=cap∧(a.2.1≤cap∨a.2.1=len)∧a.1≤a.2.1):=by
 unfold Instr.sliceBounds
 dsimp only
 refine(SRel.pure (R:=fun _ a b=>a=b∧a=cap) (fun _ _=>⟨rfl,rfl⟩)).bind fun g hg m m' e=>?_;obtain⟨rfl,rfl⟩:=e
 rcases hi with _|v<;>rcases hi' with _|v'<;>(try exact hhi.elim)
 all_goals (rcases lo with _|u<;>rcases lo' with _|u'<;>(try exact hlo.elim))
 all_goals dsimp only
 ·refine(SRel.pure (R:=fun _ a b=>a=b∧a=len) (fun _ _=>⟨rfl,rfl⟩)).bind fun g1 hg1 h h' e=>?_;obtain⟨rfl,rfl⟩:=e
  exact(SRel.pure (R:=fun _ a b=>a=b∧a=0) (fun _ _=>⟨rfl,rfl⟩)).bind fun g2 hg2 l l' e=>by
   obtain⟨rfl,rfl⟩:=e;exact SRel.pure fun _ _=>⟨rfl,rfl,.inr rfl,Nat.zero_le _⟩
 ·refine(SRel.pure (R:=fun _ a b=>a=b∧a=len) (fun _ _=>⟨rfl,rfl⟩)).bind fun g1 hg1 h h' e=>?_;obtain⟨rfl,rfl⟩:=e
  exact(SRel.sliceBound (VR.mono (Fm.le_trans hg hg1) hlo) _ _).bind fun g2 hg2 l l' e=>by
   obtain⟨rfl,hl⟩:=e;exact SRel.pure fun _ _=>⟨rfl,rfl,.inr rfl,hl⟩
 ·refine(SRel.sliceBound (VR.mono hg hhi) _ _).bind fun g1 hg1 h h' e=>?_;obtain⟨rfl,hh⟩:=e
  exact(SRel.pure (R:=fun _ a b=>a=b∧a=0) (fun _ _=>⟨rfl,rfl⟩)).bind fun g2 hg2 l l' e=>by
   obtain⟨rfl,rfl⟩:=e;exact SRel.pure fun _ _=>⟨rfl,rfl,.inl hh,Nat.zero_le _⟩
 ·refine(SRel.sliceBound (VR.mono hg hhi) _ _).bind fun g1 hg1 h h' e=>?_;obtain⟨rfl,hh⟩:=e
  exact(SRel.sliceBound (VR.mono (Fm.le_trans hg hg1) hlo) _ _).bind fun g2 hg2 l l' e=>by
   obtain⟨rfl,hl⟩:=e;exact SRel.pure fun _ _=>⟨rfl,rfl,.inl hh,hl⟩
theorem op_slice{t e:TypeId}{x x':Value}{lo lo' hi hi':Option Value}(ht:P.underlying t=some (.slice e))(hx:VR E.ok f x x')(hlo:MR E.ok f lo lo')(hhi:MR E.ok f hi hi'):SRel P E f (Instr.sliceAt t x lo hi none) (Instr.sliceAt t x' lo' hi' none) (VV E):=by
 unfold Instr.sliceAt;refine(SRel.under ht).bind fun g hg d d' e=>?_;obtain⟨rfl,rfl⟩:=e
 dsimp only
 unfold Instr.slice;refine(SRel.under ht).bind fun g1 hg1 d d' e=>?_;obtain⟨rfl,rfl⟩:=e;have hgg:=Fm.le_trans hg hg1
 have key:∀ (a a':Option Addr) (n c:Nat),(∀g,f.le g→VR E.ok g (.slice a n c) (.slice a' n c))→(a=none∧a'=none∨(∃x y,a=some x∧a'=some y∧DR f x y)∨(n=0∧c=0∧∃ x y,a=some x∧a'=some y))→SRel P E g1 (do
  let (l,h,m) ←Instr.sliceBounds true n c lo hi none
  let size ←sizeOf e
  Pure.pure (Value.slice (if m=l then a else a.map (·.add (l*size))) (h-l) (m-l))) (do
  let (l,h,m) ←Instr.sliceBounds true n c lo' hi' none
  let size ←sizeOf e
  Pure.pure (Value.slice (if m=l then a' else a'.map (·.add (l*size))) (h-l) (m-l))) (VV E):=by
  intro a a' n c hv ha;refine(SRel.sliceBounds true n c (hlo.mono hgg) (hhi.mono hgg)).bind fun g2 hg2 q q' e'=>?_;obtain⟨rfl,b1,b2,b3⟩:=e';obtain⟨l,h,m⟩:=q
  dsimp only at b1 b2 b3⊢
  refine(SRel.det (aU e)).bind fun g3 hg3 s s' e'=>?_;subst e';refine SRel.pure fun g4 hg4=>?_;have hall:=Fm.le_trans hgg (Fm.le_trans hg2 (Fm.le_trans hg3 hg4));rcases ha with⟨rfl,rfl⟩|⟨x,y,rfl,rfl,hd⟩|⟨rfl,rfl,x,y,rfl,rfl⟩
  ·simp only[Option.map_none,ite_self];exact .sliceN _ _
  ·split
   ·exact(hd.mono hall).slice _ _
   ·exact((hd.mono hall).add _).slice _ _
  ·have e1:m=0:=b1
   have e2:h=0:=by omega
   have e3:l=0:=by omega
   subst e1 e2 e3;exact .slice0 _ _
 cases hx with
 |sliceN n c=>exact key none none n c (fun g hg=>.sliceN n c) (.inl ⟨rfl,rfl⟩)
 |@slice b b' o s n c h=>exact key _ _ n c (fun g hg=>.slice (hg _ _ h)) (.inr (.inl ⟨_,_,rfl,rfl,h,rfl,rfl⟩))
 |slice0 a a'=>exact key _ _ 0 0 (fun g hg=>.slice0 a a') (.inr (.inr ⟨rfl,rfl,_,_,rfl,rfl⟩))
 |_=>exact SRel.stuck
end Co
namespace Co
variable {P:Program}{E:Env}{f:Fm}
theorem op_len{t e:TypeId}{ty:TypeId}{x x':Value}(ht:P.underlying t=some (.slice e))(hx:VR E.ok f x x'):SRel P E f (Builtin.len_ #[t] ty #[x]) (Builtin.len_ #[t] ty #[x']) (VV E):=by
 unfold Builtin.len_;simp only[List.getElem?_toArray,List.getElem?_cons_zero];refine(SRel.under ht).bind fun g hg d d' e=>?_;obtain⟨rfl,rfl⟩:=e
 cases hx with
 |sliceN n c=>exact SRel.pure fun _ _=>.int _ _
 |slice h=>exact SRel.pure fun _ _=>.int _ _
 |slice0=>exact SRel.pure fun _ _=>.int _ _
 |_=>exact SRel.stuck
theorem SRel.lenOf{x x':Value}(hx:VR E.ok f x x'):SRel P E f (Builtin.lenOf x) (Builtin.lenOf x') (fun _ a b=>a=b∧∀ ad,x=.slice (some ad) 0 0→a=0):=by
 unfold Builtin.lenOf
 cases hx with
 |sliceN n c=>exact SRel.pure fun _ _=>⟨rfl,fun _ h=>by cases h⟩
 |slice h=>exact SRel.pure fun _ _=>⟨rfl,fun _ h=>by cases h;rfl⟩
 |slice0=>exact SRel.pure fun _ _=>⟨rfl,fun _ _=>rfl⟩
 |string s=>exact SRel.pure fun _ _=>⟨rfl,fun _ h=>by cases h⟩
 |_=>exact SRel.stuck
theorem int_flat(k:IntKind)(n:Int):Flat (.int k n):=fun _ _=>.int k n
theorem SRel.firstCells(size n:Nat){x x':Value}(hx:VR E.ok f x x')(hn:∀ ad,x=.slice (some ad) 0 0→n=0):SRel P E f (Builtin.firstCells size n x) (Builtin.firstCells size n x') (fun g a b=>AR E.ok g a b):=by
 unfold Builtin.firstCells
 cases hx with
 |sliceN n c=>exact SRel.pure fun _ _=>.empty
 |@slice b b' o s n c h=>exact SRel.loadCells (a:=⟨b,o,s⟩) (a':=⟨b',o,s⟩) ⟨h,rfl,rfl⟩ _
 |slice0 a a' =>
  obtain rfl:=hn a rfl
  dsimp only
  rw[Nat.zero_mul];exact SRel.pure fun _ _=>.empty
 |string s=>exact SRel.pure fun _ _=>AR.flat (fun u hu=>(by
  obtain⟨b,-,rfl⟩:=Array.mem_map.1 hu
  exact int_flat _ _))
 |_=>exact SRel.stuck
theorem SRel.first0(size:Nat){x x':Value}(hx:VR E.ok f x x'):SRel P E f (Builtin.firstCells size 0 x) (Builtin.firstCells size 0 x') (fun _ a b=>a=#[]∧b=#[]):=by
 unfold Builtin.firstCells
 cases hx with
 |sliceN n c=>exact SRel.pure fun _ _=>⟨rfl,rfl⟩
 |slice h =>
  dsimp only
  rw[Nat.zero_mul];exact SRel.pure fun _ _=>⟨rfl,rfl⟩
 |slice0 =>
  dsimp only
  rw[Nat.zero_mul];exact SRel.pure fun _ _=>⟨rfl,rfl⟩
 |string s =>
  have h0:(s.extract 0 0).data=#[]:=Array.eq_empty_of_size_eq_zero (by
   simp)
  dsimp only
  rw[h0,Array.map_empty];exact SRel.pure fun _ _=>⟨rfl,rfl⟩
 |_=>exact SRel.stuck
theorem op_copy{t e t2:TypeId}{ty:TypeId}{d d' x x':Value}(ht:P.underlying t=some (.slice e))(hd:VR E.ok f d d')(hx:VR E.ok f x x'):SRel P E f (Builtin.copy_ #[t,t2] ty #[d,x]) (Builtin.copy_ #[t,t2] ty #[d',x']) (VV E):=by
 unfold Builtin.copy_;simp only[List.getElem?_toArray,List.getElem?_cons_zero,List.getElem?_cons_succ];refine(SRel.under ht).bind fun g hg q q' e=>?_;obtain⟨rfl,rfl⟩:=e
 dsimp only
 cases hd with
 |sliceN n c =>
  dsimp only
  refine(SRel.lenOf (hx.mono hg)).bind fun g1 hg1 m m' e=>?_;obtain⟨rfl,hm⟩:=e;refine(SRel.det (aU _)).bind fun g2 hg2 s s' e=>?_;subst e;refine(SRel.firstCells _ _ (hx.mono (Fm.le_trans hg (Fm.le_trans hg1 hg2))) (fun ad h=>by rw[hm ad h];simp)).bind fun g3 hg3 y y' hy=>?_;exact SRel.pure fun _ _=>.int _ _
 |@slice b b' o s n c h =>
  dsimp only
  refine(SRel.lenOf (hx.mono hg)).bind fun g1 hg1 m m' e=>?_;obtain⟨rfl,hm⟩:=e;refine(SRel.det (aU _)).bind fun g2 hg2 s s' e=>?_;subst e;refine(SRel.firstCells _ _ (hx.mono (Fm.le_trans hg (Fm.le_trans hg1 hg2))) (fun ad h=>by rw[hm ad h];simp)).bind fun g3 hg3 y y' hy=>?_;refine(SRel.storeCells (a:=⟨b,o,_⟩) (a':=⟨b',o,_⟩) ⟨(Fm.le_trans hg (Fm.le_trans hg1 (Fm.le_trans hg2 hg3))) _ _ h,rfl,rfl⟩ _ _ 0 hy.list).bind fun g4 hg4 _ _ _=>?_;exact SRel.pure fun _ _=>.int _ _
 |slice0 a a' =>
  dsimp only
  refine(SRel.lenOf (hx.mono hg)).bind fun g1 hg1 m m' e=>?_;obtain⟨rfl,hm⟩:=e;refine(SRel.det (aU _)).bind fun g2 hg2 s s' e=>?_;subst e;have e0:m.min 0=0:=Nat.min_zero m;rw[e0];refine(SRel.first0 s (hx.mono (Fm.le_trans hg (Fm.le_trans hg1 hg2)))).bind fun g3 hg3 y y' hy=>?_;obtain⟨rfl,rfl⟩:=hy;exact SRel.pure fun _ _=>.int _ _
 |_=>exact SRel.stuck
theorem zeroCells_flat{z:Array Value}(h:∀ u∈z,Flat u)(n:Nat):∀ u∈Builtin.zeroCells z n,Flat u:=kZ h _
def NoInt(P:Program)(t:TypeId):Prop:=∃ e,P.underlying t=some (.slice e)
theorem VR.slice_cases{d d':Value}(h:VR E.ok f d d'):(∃a a' n c,d=.slice a n c∧d'=.slice a' n c∧(a=none∧a'=none∨(∃x y,a=some x∧a'=some y∧DR f x y)∨(n=0∧c=0∧∃ x y,a=some x∧a'=some y)))∨(∀a n c,d≠.slice a n c):=by
 cases h with
 |sliceN n c=>exact .inl ⟨none,none,n,c,rfl,rfl,.inl ⟨rfl,rfl⟩⟩
 |@slice b b' o s n c h=>exact .inl ⟨_,_,n,c,rfl,rfl,.inr (.inl ⟨_,_,rfl,rfl,h,rfl,rfl⟩)⟩
 |slice0 a a'=>exact .inl ⟨_,_,0,0,rfl,rfl,.inr (.inr ⟨rfl,rfl,_,_,rfl,rfl⟩)⟩
 |_=>exact .inr (fun a n c e=>by cases e)
theorem op_append{t e t2:TypeId}{ty:TypeId}{d d' x x':Value}(ht:P.underlying t=some (.slice e))(ht2:NoInt P t2)(hz:jy P e)(hd:VR E.ok f d d')(hx:VR E.ok f x x'):SRel P E f (Builtin.append_ #[t,t2] ty #[d,x]) (Builtin.append_ #[t,t2] ty #[d',x']) (VV E):=by
 obtain⟨e2,ht2⟩:=ht2;unfold Builtin.append_;simp only[List.getElem?_toArray,List.getElem?_cons_zero,List.getElem?_cons_succ];refine(SRel.under ht).bind fun g hg q q' e=>?_;obtain⟨rfl,rfl⟩:=e
 dsimp only
 rcases hd.slice_cases with⟨a,a',sl,sc,rfl,rfl,ha⟩|hno
 ·dsimp only
  refine(SRel.det (aU _)).bind fun g1 hg1 size size' e=>?_;subst e;refine(SRel.under ht2).bind fun g2 hg2 q q' e=>?_;obtain⟨rfl,rfl⟩:=e;refine(SRel.pure (R:=fun _ a b=>a=false∧b=false) (fun _ _=>⟨rfl,rfl⟩)).bind fun g3 hg3 z z' e=>?_;obtain⟨rfl,rfl⟩:=e;simp only[Bool.false_eq_true,if_false,Bool.not_false,if_true,false_or];have h3:=Fm.le_trans hg (Fm.le_trans hg1 (Fm.le_trans hg2 hg3));refine(SRel.lenOf (hx.mono h3)).bind fun g4 hg4 n n' e=>?_;obtain⟨rfl,hn⟩:=e;have h4:=Fm.le_trans h3 hg4;split
  ·rename_i hle;rcases ha with ha|ha|⟨rfl,rfl,p,q,rfl,rfl⟩
   case inr.inr =>
    have e0:n=0:=by omega
    subst e0;refine(SRel.first0 size (hx.mono h4)).bind fun g5 hg5 y y' hy=>?_;obtain⟨rfl,rfl⟩:=hy;exact SRel.pure fun _ _=>.slice0 _ _
   all_goals refine(SRel.firstCells size n (hx.mono h4) hn).bind fun g5 hg5 y y' hy=>?_
   ·obtain⟨rfl,rfl⟩:=ha;exact SRel.pure fun _ _=>.sliceN _ _
   ·obtain⟨p,q,rfl,rfl,hpq⟩:=ha;exact(SRel.storeCells ((hpq.mono (Fm.le_trans h4 hg5)).add _) _ _ 0 hy.list).bind fun g6 hg6 _ _ _=>SRel.pure fun g7 hg7=>(hpq.mono (Fm.le_trans h4 (Fm.le_trans hg5 (Fm.le_trans hg6 hg7)))).slice _ _
  ·refine(SRel.det (dn _)).bind fun g5 hg5 i5 i5' e=>?_;subst e;split
   ·exact SRel.never (Never.bind1 (aK _))
   ·refine(SRel.det (dn _)).bind fun g6 hg6 i6 i6' e=>?_;subst e;split
    ·refine SRel.never (Never.bind1 (Never.bind fun _=>?_));split
     ·exact Never.bind fun _=>Never.halt
     ·exact Never.halt
    ·refine SRel.choose.bind fun g7 hg7 nc nc' e=>?_;subst e;refine(SRel.det (dn _)).bind fun g8 hg8 i8 i8' e=>?_;subst e;refine(SRel.askRoom _).bind fun g9 hg9 _ _ _=>?_;have h9:=Fm.le_trans h4 (Fm.le_trans hg5 (Fm.le_trans hg6 (Fm.le_trans hg7 (Fm.le_trans hg8 hg9))));refine(SRel.firstCells size sl (hd.mono h9) (fun ad h=>by cases h;rfl)).bind fun g10 hg10 y y' hy=>?_;refine(SRel.firstCells size n (hx.mono (Fm.le_trans h9 hg10)) hn).bind fun g11 hg11 u u' hu=>?_;refine(SRel.zeroC hz).bind fun g12 hg12 v v' hv=>?_;obtain⟨rfl,hv⟩:=hv;refine(SRel.newRow (((hy.mono (Fm.le_trans hg11 hg12)).append (hu.mono hg12)).append (AR.flat (zeroCells_flat hv _)))).bind fun g13 hg13 r r' hr=>?_;exact SRel.pure fun g14 hg14=>(hr.mono hg14).slice _ _
 ·cases d with
  |slice a n c=>exact absurd rfl (hno a n c)
  |_=>exact SRel.stuck
theorem op_makeSlice{t e:TypeId}{l l' c c':Value}(ht:P.underlying t=some (.slice e))(hz:jy P e)(hl:VR E.ok f l l')(hc:VR E.ok f c c'):SRel P E f (Instr.makeSlice t l c) (Instr.makeSlice t l' c') (VV E):=by
 unfold Instr.makeSlice;refine(SRel.under ht).bind fun g hg q q' e=>?_;obtain⟨rfl,rfl⟩:=e
 dsimp only
 refine(SRel.asInt (hl.mono hg)).bind fun g1 hg1 x x' e=>?_;subst e;refine(SRel.asInt (hc.mono (Fm.le_trans hg hg1))).bind fun g2 hg2 y y' e=>?_;subst e;refine(SRel.det (dn _)).bind fun g3 hg3 i i' e=>?_;subst e;split
 ·refine SRel.never ?_;split
  ·exact Never.bind1 (aK _)
  ·split
   ·exact Never.bind1 (aK _)
   ·exact Never.bind fun _=>Never.bind1 (aK _)
 ·refine(SRel.askRoom _).bind fun g4 hg4 _ _ _=>?_;refine(SRel.det (aU _)).bind fun g5 hg5 s s' e=>?_;subst e
  have key:∀ (z:Array Value) (g6:Fm),(∀u∈z,Flat u)→SRel P E g6 (do
   let a ←Go.newRow e ((Array.range ((IntKind.i64.wrap y).toNat*s)).map (z[·%z.size]!))
   Pure.pure (Value.slice (some a) (IntKind.i64.wrap x).toNat (IntKind.i64.wrap y).toNat)) (do
   let a ←Go.newRow e ((Array.range ((IntKind.i64.wrap y).toNat*s)).map (z[·%z.size]!))
   Pure.pure (Value.slice (some a) (IntKind.i64.wrap x).toNat (IntKind.i64.wrap y).toNat)) (VV E):=fun z g6 hzf =>
   (SRel.newRow (AR.flat (kZ hzf _))).bind fun g7 hg7 r r' hr=>SRel.pure fun g8 hg8=>(hr.mono hg8).slice _ _
  split
  ·exact(SRel.pure (R:=fun _ a b=>a=b∧∀ u∈a,Flat u) (fun _ _=>⟨rfl,fun u hu=>by simp at hu⟩)).bind fun g6 hg6 z z' hzz=>by
    obtain⟨rfl,hzf⟩:=hzz;exact key z g6 hzf
  ·refine(SRel.zeroC hz).bind fun g6 hg6 v v' hv=>?_;obtain⟨rfl,hv⟩:=hv
   exact(SRel.pure (R:=fun _ a b=>a=b∧∀ u∈a,Flat u) (fun _ _=>⟨rfl,hv⟩)).bind fun g7 hg7 z z' hzz=>by
    obtain⟨rfl,hzf⟩:=hzz;exact key z g7 hzf
end Co
namespace Co
variable {P:Program}{E:Env}{f:Fm}
theorem op_unary(op:UnOp){v v':Value}(h:VR E.ok f v v'):SRel P E f (Op.unary op v) (Op.unary op v') (VV E):=by
 cases h<;>cases op<;>first
  |exact SRel.stuck
  |exact SRel.unsupported
  |exact SRel.pure fun _ _=>VR.bool _
  |(unfold Op.unary Op.intArith;exact SRel.pure fun _ _=>VR.int _ _)
  |(unfold Op.unary Op.intBits;exact SRel.pure fun _ _=>VR.int _ _)
def ConvI(P:Program)(s d:TypeId):Prop:=(∃k,P.underlying s=some (.int k))∧∃ k,P.underlying d=some (.int k)
def ConvB(P:Program)(s d:TypeId):Prop:=(∃e,P.underlying s=some (.slice e)∧P.underlying e=some (.int .u8))∧P.underlying d=some .string
theorem op_convI{s d:TypeId}(hc:ConvI P s d){v v':Value}(h:VR E.ok f v v'):SRel P E f (Go.convert s d v) (Go.convert s d v') (VV E):=by
 obtain⟨⟨k,h1⟩,⟨k2,h2⟩⟩:=hc;unfold Go.convert;refine(SRel.under h1).bind fun g hg q q' e=>?_;obtain⟨rfl,rfl⟩:=e;refine(SRel.under h2).bind fun g1 hg1 q q' e=>?_;obtain⟨rfl,rfl⟩:=e
 cases h with
 |int k n=>exact SRel.pure fun _ _=>.int _ _
 |_=>exact SRel.unsupported
theorem SRel.bytesLoop:∀ (l l':List Value) (s:ByteArray),LR E.ok f l l'→SRel P E f (forIn l s (fun c (s:ByteArray)=>do
 let .int .u8 n:=c|Go.stuck "bytesToString: byte expected"
 Pure.pure (ForInStep.yield (s.push (UInt8.ofNat n.toNat))):Value→ByteArray→Sem (ForInStep ByteArray))) (forIn l' s (fun c (s:ByteArray)=>do
 let .int .u8 n:=c|Go.stuck "bytesToString: byte expected"
 Pure.pure (ForInStep.yield (s.push (UInt8.ofNat n.toNat))):Value→ByteArray→Sem (ForInStep ByteArray))) (fun _ a b=>a=b):=by
 intro l
 induction l generalizing f with
 |nil =>
  intro l' s hl;obtain rfl:=hl.nil_inv;exact SRel.pure fun _ _=>rfl
 |cons c l ih =>
  intro l' s hl;obtain⟨c',m,rfl,hc,hm⟩:=hl.cons_inv;rw[List.forIn_cons,List.forIn_cons];refine SRel.bind (R:=fun _ a b=>∃ x,a=ForInStep.yield x∧b=ForInStep.yield x) ?_ fun g hg a b hab=>?_
  ·cases hc with
   |int k n =>
    cases k<;>first
     |exact SRel.pure fun _ _=>⟨_,rfl,rfl⟩
     |exact SRel.stuck
   |_=>exact SRel.stuck
  ·obtain⟨x,rfl,rfl⟩:=hab;exact ih m x (hm.mono hg)
theorem op_convB{s d:TypeId}(hc:ConvB P s d){v v':Value}(h:VR E.ok f v v'):SRel P E f (Go.convert s d v) (Go.convert s d v') (VV E):=by
 obtain⟨⟨e,h1,h3⟩,h2⟩:=hc;unfold Go.convert;refine(SRel.under h1).bind fun g hg q q' e=>?_;obtain⟨rfl,rfl⟩:=e;refine(SRel.under h2).bind fun g1 hg1 q q' e=>?_;obtain⟨rfl,rfl⟩:=e;have hgg:=Fm.le_trans hg hg1
 have key:∀ g2,g1.le g2→∀ x x',VR E.ok g2 x x'→SRel P E g2 (do
  match ←underlying e with
  |.int .u8=>Conv.bytesToString x
  |.int .i32=>Conv.runesToString x
  |_=>Go.stuck "Convert: a slice of what to string?") (do
  match ←underlying e with
  |.int .u8=>Conv.bytesToString x'
  |.int .i32=>Conv.runesToString x'
  |_=>Go.stuck "Convert: a slice of what to string?") (VV E):=by
  intro g2 hg2 x x' hx;refine(SRel.under h3).bind fun g3 hg3 q q' e=>?_;obtain⟨rfl,rfl⟩:=e
  dsimp only
  unfold Conv.bytesToString
  cases hx with
  |sliceN n c=>exact SRel.pure fun _ _=>.string _
  |@slice b b' o s n c h =>
   dsimp only
   refine(SRel.loadCells (a:=⟨b,o,s⟩) (a':=⟨b',o,s⟩) ⟨hg3 _ _ h,rfl,rfl⟩ n).bind fun g4 hg4 y y' hy=>?_;refine SRel.bind (R:=fun _ a b=>a=b) ?_ fun g5 hg5 a b e=>?_
   ·rw[←Array.forIn_toList,←Array.forIn_toList];exact SRel.bytesLoop y.toList y'.toList _ hy.list
   ·subst e;exact SRel.pure fun _ _=>.string _
  |slice0 a a' =>
   refine(SRel.pure (R:=fun g a b=>AR E.ok g a b) fun g _=>(AR.empty:AR E.ok g #[] #[])).bind fun g4 hg4 y y' hy=>?_;refine SRel.bind (R:=fun _ a b=>a=b) ?_ fun g5 hg5 a b e=>?_
   ·rw[←Array.forIn_toList,←Array.forIn_toList];exact SRel.bytesLoop y.toList y'.toList _ hy.list
   ·subst e;exact SRel.pure fun _ _=>.string _
  |_=>exact SRel.stuck
 cases h with
 |int k n=>exact SRel.pure fun _ _=>.string _
 |string s=>exact SRel.pure fun _ _=>.string _
 |sliceN n c=>exact key g1 g1.le_refl _ _ (.sliceN n c)
 |slice h=>exact key g1 g1.le_refl _ _ (.slice (hgg _ _ h))
 |bool b=>exact key g1 g1.le_refl _ _ (.bool b)
 |ptrN=>exact key g1 g1.le_refl _ _ .ptrN
 |ptr h=>exact key g1 g1.le_refl _ _ (.ptr (hgg _ _ h))
 |mapN=>exact key g1 g1.le_refl _ _ .mapN
 |map h=>exact key g1 g1.le_refl _ _ (.map (hgg _ _ h))
 |chanN=>exact key g1 g1.le_refl _ _ .chanN
 |chan h=>exact key g1 g1.le_refl _ _ (.chan (hgg _ _ h))
 |func h hx hy ex ey=>exact key g1 g1.le_refl _ _ ((VR.func h hx hy ex ey).mono hgg)
 |nilFunc=>exact key g1 g1.le_refl _ _ .nilFunc
 |iface h=>exact key g1 g1.le_refl _ _ ((VR.iface h).mono hgg)
 |nilIface=>exact key g1 g1.le_refl _ _ .nilIface
 |agg hx ex=>exact key g1 g1.le_refl _ _ ((VR.agg hx ex).mono hgg)
 |tuple hx ex=>exact key g1 g1.le_refl _ _ ((VR.tuple hx ex).mono hgg)
 |slice0 a a'=>exact key g1 g1.le_refl _ _ (.slice0 a a')
 |wild =>
  refine SRel.never (Never.bind fun q=>?_);split
  ·exact fun w a w2 hr=>by cases hr
  ·exact fun w a w2 hr=>by cases hr
  ·exact Never.halt
end Co
namespace Co
variable {P:Program}{E:Env}{f:Fm}
inductive Plain:TypeDesc→Prop
 |int (k:IntKind):Plain (.int k)
 |bool:Plain .bool
 |string:Plain .string
 |slice (e:TypeId):Plain (.slice e)
theorem SRel.ite{α β:Type}{R:Fm→α→β→Prop}{c:Prop}[Decidable c]{s s':Sem α}{t t':Sem β}(h1:c→SRel P E f s t R)(h2:¬ c→SRel P E f s' t' R):SRel P E f (if c then s else s') (if c then t else t') R:=by
 by_cases h:c
 ·rw[if_pos h,if_pos h];exact h1 h
 ·rw[if_neg h,if_neg h];exact h2 h
def Qt{α:Type}(P:Program)(s:Sem α)(a:α):Prop:=∀ w es,s.runT P w es=(.ok a w,es)
theorem Qt.pure{α:Type}(a:α):Qt P (Pure.pure a:Sem α) a:=fun _ _=>rfl
theorem Qt.bind{α β:Type}{s:Sem α}{k:α→Sem β}{a:α}{b:β}(h:Qt P s a)(hk:Qt P (k a) b):Qt P (s >>= k) b:=fun w es=>by
 show(Sem.bind s k).runT P w es=_;rw[Sem.runT_bind',h];exact hk w es
theorem Qt.ite{α:Type}{c:Prop}[Decidable c]{s t:Sem α}{a:α}(h1:c→Qt P s a)(h2:¬ c→Qt P t a):Qt P (if c then s else t) a:=by
 by_cases h:c
 ·rw[if_pos h];exact h1 h
 ·rw[if_neg h];exact h2 h
theorem Qt.program:Qt P Go.program P:=fun _ _=>rfl
theorem Qt.under{t:TypeId}{d:TypeDesc}(h:P.underlying t=some d):Qt P (underlying t) d:=by
 unfold underlying;refine Qt.bind .program ?_;rw[h];exact .pure d
theorem SRel.qt{α β:Type}{s:Sem α}{t:Sem β}{a:α}{b:β}(h:Qt P s a)(k:Qt P t b):SRel P E f s t (fun _ x y=>x=a∧y=b):=by
 intro g hg w w' hw a' w2 hr
 have hrun:∀ w,s.run P w=.ok a w:=fun w=>by rw[←Sem.runT_fst P s w #[],h]
 rw[hrun]at hr;cases hr;exact⟨g,b,w',#[],fun es=>by rw[Array.append_empty];exact k w' es,hw,⟨rfl,rfl⟩,.refl,fun e he=>by simp at he,.still rfl rfl fun _ _=>hrun _⟩
theorem guard_qt{t:TypeId}{d:TypeDesc}(ht:P.underlying t=some d)(hd:Plain d)(n:Nat)(a b:Value):Qt P (Op.eqGuardIn (n+1) t a b) false:=by
 unfold Op.eqGuardIn;refine(Qt.under ht).bind ?_
 cases hd<;>exact .pure _
theorem guard_whole{t:TypeId}{d:TypeDesc}(op:BinOp)(x y:Operand)(ht:P.underlying t=some d)(hd:Plain d)(a b:Value):Qt P (eqGuard op t x y a b) ():=by
 have hm:Op.maxDepth=9999+1:=rfl;unfold eqGuard;rw[hm];refine Qt.ite (fun _=>.pure _) fun _=>?_;split
 ·exact Qt.ite (fun _=>.pure _) fun _=>(guard_qt ht hd _ _ _).bind (.pure _)
 ·refine Qt.program.bind (Qt.program.bind ?_);exact Qt.ite (fun _=>.pure _) fun _=>(guard_qt ht hd _ _ _).bind (.pure _)
 ·exact .pure _
theorem op_guard{t:TypeId}{d:TypeDesc}(op:BinOp)(x y:Operand)(ht:P.underlying t=some d)(hd:Plain d){a a' b b':Value}(ha:VR E.ok f a a')(hb:VR E.ok f b b'):SRel P E f (eqGuard op t x y a b) (eqGuard op t x y a' b') (fun _ _ _=>True) :=
 (SRel.qt (guard_whole op x y ht hd a b) (guard_whole op x y ht hd a' b')).mono fun _ _ _ _ _=>trivial
theorem guardN_qt(op:BinOp){t:TypeId}(x:Operand)(a:Value):Qt P (eqGuard op t x (.const .nilIface) a .nilIface) ():=by
 unfold eqGuard;refine Qt.ite (fun _=>.pure _) fun _=>?_;split
 ·exact Qt.ite (fun _=>.pure _) fun h=>absurd (Bool.or_true _) h
 ·cases ‹Value.nilIface=_›
 ·exact .pure _
theorem op_guardN(op:BinOp){t:TypeId}(x:Operand){a a':Value}(ha:VR E.ok f a a'):SRel P E f (eqGuard op t x (.const .nilIface) a .nilIface) (eqGuard op t x (.const .nilIface) a' .nilIface) (fun _ _ _=>True) :=
 (SRel.qt (guardN_qt op x a) (guardN_qt op x a')).mono fun _ _ _ _ _=>trivial
end Co
namespace Co
variable {P:Program}{E:Env}{f:Fm}
theorem SRel.numberAt{r r':Nat}(h:f r=some r'):SRel P E f (numberAt r) (numberAt r') (fun g x y=>(x=none∧y=none)∨∃a a' l,x=some (a,l)∧y=some (a',l)∧DR g a a'):=by
 unfold Go.numberAt;refine(SRel.shape h).bind fun g hg s s' e=>?_;subst e;refine SRel.ite (fun _=>SRel.pure fun _ _=>.inl ⟨rfl,rfl⟩) (fun _=>?_);refine(SRel.getObj (hg _ _ h)).bind fun g1 hg1 o o' ho=>?_
 cases ho with
 |cells=>exact SRel.pure fun _ _=>.inl ⟨rfl,rfl⟩
 |map=>exact SRel.pure fun _ _=>.inl ⟨rfl,rfl⟩
 |stringIter=>exact SRel.pure fun _ _=>.inl ⟨rfl,rfl⟩
 |number e=>exact SRel.pure fun g2 hg2=>.inr ⟨_,_,_,rfl,rfl,hg2 _ _ e,rfl,rfl⟩
theorem SRel.viewAt{r r':Nat}(h:f r=some r'):SRel P E f (viewAt r) (viewAt r') (fun g x y=>x=none∧y=none):=by
 unfold Go.viewAt;refine(SRel.shape h).bind fun g hg s s' e=>?_;subst e;refine SRel.ite (fun _=>SRel.pure fun _ _=>⟨rfl,rfl⟩) (fun _=>?_);refine(SRel.getObj (hg _ _ h)).bind fun g1 hg1 o o' ho=>?_
 cases ho with
 |cells=>exact SRel.pure fun _ _=>⟨rfl,rfl⟩
 |map=>exact SRel.pure fun _ _=>⟨rfl,rfl⟩
 |stringIter=>exact SRel.pure fun _ _=>⟨rfl,rfl⟩
 |number e=>exact SRel.pure fun g2 hg2=>⟨rfl,rfl⟩
theorem SRel.behindNumber{a a':Addr}(h:DR f a a'):SRel P E f (behindNumber a) (behindNumber a') (fun g x y=>DR g x.1 y.1∧x.2=y.2):=by
 unfold Go.behindNumber;refine(SRel.numberAt h.1).bind fun g hg x y hxy=>?_;rcases hxy with⟨rfl,rfl⟩|⟨b,b',l,rfl,rfl,hd⟩
 ·exact SRel.pure fun g1 hg1=>⟨h.mono (Fm.le_trans hg hg1),rfl⟩
 ·exact SRel.pure fun g1 hg1=>⟨hd.mono hg1,rfl⟩
theorem SRel.asNumber{a a':Addr}(h:DR f a a')(l:Bool):SRel P E f (asNumber a l) (asNumber a' l) (VV E):=by
 unfold Go.asNumber;obtain⟨b,o,s⟩:=a;obtain⟨b',o',s'⟩:=a';obtain⟨h1,h2,h3⟩:=h;simp only at h1 h2 h3;subst h2 h3;exact(SRel.new (.number h1)).bind fun g hg r r' hr=>SRel.pure fun g1 hg1=>.ptr (hg1 _ _ hr)
theorem SRel.noView{a a':Addr}(h:DR f a a'):SRel P E f (noView a) (noView a') (fun _ _ _=>True):=by
 unfold Go.noView;refine(SRel.viewAt h.1).bind fun g hg x y hxy=>?_;obtain⟨rfl,rfl⟩:=hxy;exact SRel.pure fun _ _=>trivial
theorem SRel.byteOf{a a':Addr}(h:DR f a a'):SRel P E f (byteOf a) (byteOf a') (fun _ x y=>x=y):=by
 obtain⟨b,o,s⟩:=a;obtain⟨b',o',s'⟩:=a';obtain⟨h1,h2,h3⟩:=h;simp only at h1 h2 h3;subst h2 h3;unfold Go.byteOf
 dsimp only
 cases s' with
 |some s=>exact SRel.pure fun _ _=>rfl
 |none =>
  refine(SRel.program (R:=fun _ a b=>a=P∧b=P) (fun _ _=>⟨rfl,rfl⟩)).bind fun g hg p p' e=>?_;obtain⟨rfl,rfl⟩:=e;refine(SRel.noView (a:=⟨b,o',none⟩) (a':=⟨b',o',none⟩) ⟨hg _ _ h1,rfl,rfl⟩).bind fun g1 hg1 _ _ _=>?_;refine(SRel.shape ((Fm.le_trans hg hg1) _ _ h1)).bind fun g2 hg2 s s' e=>?_;subst e
  cases s with
  |none=>exact SRel.stuck
  |some es =>
   obtain⟨e,n⟩:=es
   dsimp only
   refine SRel.ite (fun _=>SRel.pure fun _ _=>rfl) (fun _=>?_);split
   ·exact SRel.pure fun _ _=>rfl
   ·exact SRel.stuck
theorem SRel.addrMod(k:IntKind){a a':Addr}(h:DR f a a')(n:Int):SRel P E f (Op.addrMod k a n) (Op.addrMod k a' n) (VV E):=by
 unfold Op.addrMod;refine(SRel.shape h.1).bind fun g hg s s' e=>?_;subst e
 cases s with
 |none=>exact SRel.unsupported
 |some es =>
  obtain⟨e,m⟩:=es
  dsimp only
  refine(SRel.det (dn e)).bind fun g1 hg1 i i' e=>?_;subst e;refine SRel.ite (fun _=>SRel.never (Never.bind1 Never.halt)) (fun _=>?_);refine(SRel.byteOf (h.mono (Fm.le_trans hg hg1))).bind fun g2 hg2 x y e=>?_;subst e;exact SRel.pure fun _ _=>.int _ _
theorem SRel.twoPlaces(hE:E.G=P.globals.size){a a' b b':Addr}(h:DR f a a'):SRel P E f (Op.twoPlaces a b) (Op.twoPlaces a' b') (fun _ _ _=>False):=by
 refine SRel.glob fun g hg hgl=>?_;unfold Op.twoPlaces;refine(SRel.program (R:=fun _ a b=>a=P∧b=P) (fun _ _=>⟨rfl,rfl⟩)).bind fun g1 hg1 p p' e=>?_;obtain⟨rfl,rfl⟩:=e;have h1:=hgl _ _ (hg _ _ h.1);refine SRel.never ?_;rw[if_pos (by simp;right;omega)];exact Never.bind1 Never.halt
theorem SRel.addrSub(hE:E.G=P.globals.size)(k:IntKind){a a' b b':Addr}(h:DR f a a'):SRel P E f (Op.addrSub k a b) (Op.addrSub k a' b') (VV E):=(SRel.twoPlaces hE h).bind fun _ _ _ _ h=>h.elim
theorem SRel.addrCmp(hE:E.G=P.globals.size)(op:BinOp){a a' b b':Addr}(h:DR f a a'):SRel P E f (Op.addrCmp op a b) (Op.addrCmp op a' b') (VV E):=(SRel.twoPlaces hE h).bind fun _ _ _ _ h=>h.elim
theorem SRel.unsafeAdd(ts:Array TypeId)(t:TypeId){x x' y y':Value}(hx:VR E.ok f x x')(hy:VR E.ok f y y'):SRel P E f (Builtin.unsafeAdd_ ts t #[x,y]) (Builtin.unsafeAdd_ ts t #[x',y']) (fun g a b=>VR E.ok g a b∧∃ p,a=.pointer p):=by
 unfold Builtin.unsafeAdd_
 cases hx with
 |ptrN =>
  dsimp only
  refine(SRel.asInt hy).bind fun g hg n n' e=>?_;subst e;refine SRel.ite (fun _=>SRel.unsupported) (fun _=>?_);refine SRel.ite (fun _=>SRel.never (Never.bind1 Never.halt)) (fun _=>SRel.unsupported)
 |@ptr b b' o s h =>
  dsimp only
  refine(SRel.asInt hy).bind fun g hg n n' e=>?_;subst e;refine SRel.ite (fun _=>?_) (fun _=>?_)
  ·refine(SRel.viewAt (hg _ _ h)).bind fun g1 hg1 u v e=>?_;obtain⟨rfl,rfl⟩:=e;exact SRel.pure fun g2 hg2=>⟨.ptr ((Fm.le_trans hg (Fm.le_trans hg1 hg2)) _ _ h),_,rfl⟩
  ·refine SRel.ite (fun _=>SRel.never (Never.bind1 Never.halt)) (fun _=>?_);refine(SRel.shape (hg _ _ h)).bind fun g1 hg1 u v e=>?_;subst e
   cases u with
   |none=>exact SRel.unsupported
   |some es =>
    obtain⟨e,m⟩:=es
    dsimp only
    refine(SRel.program (R:=fun _ a b=>a=P∧b=P) (fun _ _=>⟨rfl,rfl⟩)).bind fun g2 hg2 p p' e=>?_;obtain⟨rfl,rfl⟩:=e;split
    ·exact SRel.pure fun g3 hg3=>⟨.ptr ((Fm.le_trans hg (Fm.le_trans hg1 (Fm.le_trans hg2 hg3))) _ _ h),_,rfl⟩
    ·exact SRel.unsupported
 |_=>exact SRel.stuck
theorem SRel.movedNumber{t:TypeId}{d:TypeDesc}(ht:P.underlying t=some d)(hd:Plain d){x x' y y':Value}(hx:VR E.ok f x x')(hy:VR E.ok f y y'):SRel P E f (movedNumber t x y) (movedNumber t x' y') (VV E):=by
 unfold Go.movedNumber;refine(SRel.under ht).bind fun g hg q q' e=>?_;obtain⟨rfl,rfl⟩:=e
 have key:SRel P E g (do
  let .pointer (some n):=x|Builtin.unsafeAdd_ #[] t #[x,y]
  let (a,lost) ←Go.behindNumber n
  match ←Builtin.unsafeAdd_ #[] t #[.pointer (some a),y] with
  |.pointer (some b)=>Go.asNumber b lost
  |v=>Pure.pure v) (do
  let .pointer (some n):=x'|Builtin.unsafeAdd_ #[] t #[x',y']
  let (a,lost) ←Go.behindNumber n
  match ←Builtin.unsafeAdd_ #[] t #[.pointer (some a),y'] with
  |.pointer (some b)=>Go.asNumber b lost
  |v=>Pure.pure v) (VV E):=by
  have hx0:=hx.mono hg
  cases hx with
  |@ptr b b' o s h =>
   dsimp only
   refine(SRel.behindNumber (a:=⟨b,o,s⟩) (a':=⟨b',o,s⟩) ⟨hg _ _ h,rfl,rfl⟩).bind fun g1 hg1 u v huv=>?_;obtain⟨a,l⟩:=u;obtain⟨a',l'⟩:=v;obtain⟨h1,h2⟩:=huv;simp only at h1 h2;subst h2
   dsimp only
   refine(SRel.unsafeAdd #[] t h1.ptr (hy.mono (Fm.le_trans hg hg1))).bind fun g2 hg2 c c' hc=>?_;obtain⟨hc,p,rfl⟩:=hc
   cases hc with
   |@ptr b b' o s h=>exact SRel.asNumber (a:=⟨b,o,s⟩) (a':=⟨b',o,s⟩) ⟨h,rfl,rfl⟩ l
   |ptrN=>exact SRel.pure fun _ _=>.ptrN
  |wild=>exact SRel.never fun w a w2 hr=>by cases hr
  |_=>exact(SRel.unsafeAdd #[] t hx0 (hy.mono hg)).mono fun _ _ _ _ h=>h.1
 cases hd<;>exact key
theorem op_equalIn(n:Nat)(hE:E.G=P.globals.size){t:TypeId}{d:TypeDesc}(ht:P.underlying t=some d)(hd:Plain d)(hc:∀ i,P.info? t=some i→∀ u,i.desc≠.named "sync.copyChecker" u){x x' y y':Value}(hx:VR E.ok f x x')(hy:VR E.ok f y y'):SRel P E f (Op.equalIn (n+1) t x y) (Op.equalIn (n+1) t x' y') (fun _ a b=>a=b):=by
 unfold Op.equalIn;refine(SRel.under ht).bind fun g hg q q' e=>?_;obtain⟨rfl,rfl⟩:=e
 cases hd with
 |int k =>
  cases hx with
  |int k1 n1 =>
   cases hy with
   |int k2 n2=>exact SRel.ite (fun _=>SRel.pure fun _ _=>rfl) (fun _=>SRel.stuck)
   |ptr h =>
    rcases n1 with(_|m)|m
    ·exact SRel.pure fun _ _=>rfl
    ·exact SRel.unsupported
    ·exact SRel.unsupported
   |ptrN=>exact SRel.unsupported
   |_=>exact SRel.stuck
  |@ptr b b' o s h =>
   cases hy with
   |int k2 n2 =>
    rcases n2 with(_|m)|m
    ·exact SRel.pure fun _ _=>rfl
    ·exact SRel.unsupported
    ·exact SRel.unsupported
   |@ptr c c' o2 s2 h2 =>
    dsimp only
    refine(SRel.behindNumber (a:=⟨b,o,s⟩) (a':=⟨b',o,s⟩) ⟨hg _ _ h,rfl,rfl⟩).bind fun g1 hg1 u v huv=>?_;refine(SRel.behindNumber (a:=⟨c,o2,s2⟩) (a':=⟨c',o2,s2⟩) ⟨(Fm.le_trans hg hg1) _ _ h2,rfl,rfl⟩).bind fun g2 hg2 u2 v2 huv2=>?_;refine SRel.glob fun g3 hg3 hgl=>?_;refine(SRel.program (R:=fun _ a b=>a=P∧b=P) (fun _ _=>⟨rfl,rfl⟩)).bind fun g4 hg4 p p' e=>?_;obtain⟨rfl,rfl⟩:=e;have h7:=hgl _ _ ((Fm.le_trans hg2 hg3) _ _ huv.1.1);refine SRel.never ?_;rw[if_neg (by simp;intro _;omega)];intro w a w2 hr;rw[Sem.run_bind,jM]at hr
    cases hi:p'.info? t with
    |none=>rw[hi]at hr;cases hr
    |some i =>
     rw[hi]at hr;simp only[Result.andThen_ok]at hr;split at hr
     ·rename_i u' he;exact absurd he (hc i hi u')
     ·cases hr
   |_=>first|exact SRel.unsupported|exact SRel.stuck
  |ptrN=>cases hy<;>first|exact SRel.unsupported|exact SRel.stuck
  |_=>cases hy<;>first|exact SRel.stuck|exact SRel.unsupported
 |bool=>cases hx<;>cases hy<;>first|exact SRel.pure fun _ _=>rfl|exact SRel.stuck
 |string=>cases hx<;>cases hy<;>first|exact SRel.pure fun _ _=>rfl|exact SRel.stuck
 |slice el=>cases hx<;>cases hy<;>first|exact SRel.pure fun _ _=>rfl|exact SRel.stuck
theorem op_equal(hE:E.G=P.globals.size){t:TypeId}{d:TypeDesc}(ht:P.underlying t=some d)(hd:Plain d)(hc:∀ i,P.info? t=some i→∀ u,i.desc≠.named "sync.copyChecker" u){x x' y y':Value}(hx:VR E.ok f x x')(hy:VR E.ok f y y'):SRel P E f (Op.equal t x y) (Op.equal t x' y') (fun _ a b=>a=b):=op_equalIn 9999 hE ht hd hc hx hy
theorem fP{t:TypeId}{d:TypeDesc}(ht:P.underlying t=some d)(hd:Plain d){x y:Value}(h:x=.tuple #[]∨y=.tuple #[]):Never P (Op.equal t x y):=by
 have hm:Op.maxDepth=9999+1:=rfl;unfold Op.equal;rw[hm];unfold Op.equalIn;intro w a w2 hr;rw[Sem.run_bind,show(underlying t).run P w=.ok d w by rw[←Sem.runT_fst P _ w #[],(Qt.under ht)],Result.andThen_ok]at hr;rcases h with rfl|rfl
 ·cases hd<;>cases y<;>first|(cases hr;done)|(split at hr<;>first|(cases hr;done)|contradiction)
 ·cases hd<;>cases x<;>first|(cases hr;done)|(split at hr<;>first|(cases hr;done)|contradiction)
theorem op_equalN{t:TypeId}{ms:Array (String×TypeId)}(ht:P.underlying t=some (.interface ms)){x x':Value}(hx:VR E.ok f x x'):SRel P E f (Op.equal t x .nilIface) (Op.equal t x' .nilIface) (fun _ a b=>a=b):=by
 have hm:Op.maxDepth=9999+1:=rfl;unfold Op.equal;rw[hm];unfold Op.equalIn;refine(SRel.under ht).bind fun g hg q q' e=>?_;obtain⟨rfl,rfl⟩:=e
 cases hx<;>first|exact SRel.pure fun _ _=>rfl|exact SRel.stuck
theorem equalN_never{t:TypeId}{ms:Array (String×TypeId)}(ht:P.underlying t=some (.interface ms)):Never P (Op.equal t (.tuple #[]) .nilIface):=by
 have hm:Op.maxDepth=9999+1:=rfl;unfold Op.equal;rw[hm];unfold Op.equalIn;intro w a w2 hr;rw[Sem.run_bind,show(underlying t).run P w=.ok (.interface ms) w by rw[←Sem.runT_fst P _ w #[],(Qt.under ht)],Result.andThen_ok]at hr;cases hr
theorem mM(k:IntKind)(n:Int):SRel P E f (Pure.pure (.int k n)) (Pure.pure (.int k n)) (VV E):=SRel.pure fun _ _=>.int _ _
theorem dS(b:Bool):SRel P E f (Pure.pure (.bool b)) (Pure.pure (.bool b)) (VV E):=SRel.pure fun _ _=>.bool _
theorem op_intArith(op:BinOp)(k:IntKind)(a b:Int):SRel P E f (Op.intArith op k a b) (Op.intArith op k a b) (VV E):=by
 cases op<;>first|exact mM _ _|exact SRel.stuck
theorem op_intBits(op:BinOp)(k:IntKind)(a b:Int):SRel P E f (Op.intBits op k a b) (Op.intBits op k a b) (VV E):=by
 cases op<;>first|exact mM _ _|exact SRel.stuck
theorem nH(op:BinOp)(a b:Int):SRel P E f (Op.intCmp op a b) (Op.intCmp op a b) (VV E):=by
 cases op<;>first|exact dS _|exact SRel.stuck
theorem op_intDiv(op:BinOp)(k:IntKind)(a b:Int):SRel P E f (Op.intDiv op k a b) (Op.intDiv op k a b) (VV E):=by
 unfold Op.intDiv;refine SRel.ite (fun _=>SRel.never (aK _)) (fun _=>?_)
 cases op<;>first|exact mM _ _|exact SRel.stuck
theorem op_shift(op:BinOp)(k:IntKind)(a:Int)(yk:IntKind)(b:Int):SRel P E f (Op.shift op k a yk b) (Op.shift op k a yk b) (VV E):=by
 unfold Op.shift;refine SRel.ite (fun _=>SRel.never (aK _)) (fun _=>?_)
 cases op<;>first|exact mM _ _|exact SRel.stuck
theorem nT(op:BinOp)(a b:ByteArray):SRel P E f (Op.stringOp op a b) (Op.stringOp op a b) (VV E):=by
 unfold Op.stringOp
 cases op<;>first
  |exact dS _
  |exact SRel.stuck
  |exact SRel.ite (fun _=>SRel.unsupported) (fun _=>SRel.pure fun _ _=>.string _)
theorem op_binOp(hE:E.G=P.globals.size)(op:BinOp){t:TypeId}{d:TypeDesc}(ht:P.underlying t=some d)(hd:Plain d)(hc:∀ i,P.info? t=some i→∀ u,i.desc≠.named "sync.copyChecker" u){x x' y y':Value}(hx:VR E.ok f x x')(hy:VR E.ok f y y'):SRel P E f (binOp op t x y) (binOp op t x' y') (VV E):=by
 have heq:SRel P E f (do Pure.pure (Value.bool (←Op.equal t x y))) (do Pure.pure (Value.bool (←Op.equal t x' y'))) (VV E):=(op_equal hE ht hd hc hx hy).bind fun g hg a b e=>by subst e;exact dS _
 have hne:SRel P E f (do Pure.pure (Value.bool (!(←Op.equal t x y)))) (do Pure.pure (Value.bool (!(←Op.equal t x' y')))) (VV E):=(op_equal hE ht hd hc hx hy).bind fun g hg a b e=>by subst e;exact dS _
 have hmv:SRel P E f (movedNumber t x y) (movedNumber t x' y') (VV E):=SRel.movedNumber ht hd hx hy;generalize hT:binOp op t x' y'=T;unfold binOp;split
 ·cases hx;cases hy;subst hT;exact op_shift _ _ _ _ _
 ·cases hx;cases hy;subst hT;exact op_shift _ _ _ _ _
 ·rename_i k a k' b hn1 hn2;cases hx;cases hy;subst hT;unfold binOp
  cases op<;>first
   |exact(hn1 _ _ _ _ rfl rfl rfl).elim
   |exact(hn2 _ _ _ _ rfl rfl rfl).elim
   |(exfalso;simp at hn1;done)
   |(exfalso;simp at hn2;done)
   |exact SRel.ite (fun _=>SRel.stuck) (fun _=>op_intArith _ _ _ _)
   |exact SRel.ite (fun _=>SRel.stuck) (fun _=>op_intDiv _ _ _ _)
   |exact SRel.ite (fun _=>SRel.stuck) (fun _=>op_intBits _ _ _ _)
   |exact SRel.ite (fun _=>SRel.stuck) (fun _=>nH _ _ _)
   |exact op_shift _ _ _ _ _
 ·cases hx
 ·cases hx
 ·cases hx;cases hy;subst hT;cases op<;>exact nT _ _ _
 ·rename_i n1 n2 n3 n4;subst hT
  cases hx<;>cases hy<;>first
   |exact heq
   |exact SRel.never (Never.bind1 (fP ht hd (.inl rfl)))
   |exact SRel.never (Never.bind1 (fP ht hd (.inr rfl)))
   |exact(n1 _ _ _ _ rfl rfl).elim
   |exact(n4 _ _ rfl rfl).elim
 ·rename_i n1 n2 n3 n4;subst hT
  cases hx<;>cases hy<;>first
   |exact hne
   |exact SRel.never (Never.bind1 (fP ht hd (.inl rfl)))
   |exact SRel.never (Never.bind1 (fP ht hd (.inr rfl)))
   |exact(n1 _ _ _ _ rfl rfl).elim
   |exact(n4 _ _ rfl rfl).elim
 ·cases hy;subst hT
  cases hx<;>(
   refine(SRel.under ht).bind fun g hg q q' e=>?_;obtain⟨rfl,rfl⟩:=e
   cases hd<;>exact hmv.up hg)
 ·have:=SRel.movedNumber ht hd hy hx;cases hx;subst hT;cases hy<;>exact this
 ·rename_i k n;have:=SRel.movedNumber ht hd hx (VR.int (ok:=E.ok) (f:=f) k (-n));cases hy;subst hT;cases hx<;>exact this
 ·obtain⟨a',rfl,ha⟩:=hx.ptr_inv;obtain⟨b',rfl,hb⟩:=hy.ptr_inv;subst hT;exact(SRel.behindNumber ha).bind fun g hg u v huv=>((SRel.behindNumber (hb.mono hg))).bind fun g1 hg1 u2 v2 huv2=>SRel.addrSub hE _ (huv.1.mono hg1)
 ·obtain⟨a',rfl,ha⟩:=hx.ptr_inv;obtain⟨b',rfl,hb⟩:=hy.ptr_inv;subst hT;exact(SRel.behindNumber ha).bind fun g hg u v huv=>((SRel.behindNumber (hb.mono hg))).bind fun g1 hg1 u2 v2 huv2=>SRel.addrCmp hE _ (huv.1.mono hg1)
 ·obtain⟨a',rfl,ha⟩:=hx.ptr_inv;obtain⟨b',rfl,hb⟩:=hy.ptr_inv;subst hT;exact(SRel.behindNumber ha).bind fun g hg u v huv=>((SRel.behindNumber (hb.mono hg))).bind fun g1 hg1 u2 v2 huv2=>SRel.addrCmp hE _ (huv.1.mono hg1)
 ·obtain⟨a',rfl,ha⟩:=hx.ptr_inv;obtain⟨b',rfl,hb⟩:=hy.ptr_inv;subst hT;exact(SRel.behindNumber ha).bind fun g hg u v huv=>((SRel.behindNumber (hb.mono hg))).bind fun g1 hg1 u2 v2 huv2=>SRel.addrCmp hE _ (huv.1.mono hg1)
 ·obtain⟨a',rfl,ha⟩:=hx.ptr_inv;obtain⟨b',rfl,hb⟩:=hy.ptr_inv;subst hT;exact(SRel.behindNumber ha).bind fun g hg u v huv=>((SRel.behindNumber (hb.mono hg))).bind fun g1 hg1 u2 v2 huv2=>SRel.addrCmp hE _ (huv.1.mono hg1)
 ·obtain⟨a',rfl,ha⟩:=hx.ptr_inv;cases hy;subst hT;exact(SRel.behindNumber ha).bind fun g hg u v huv=>SRel.addrMod _ huv.1 _
 ·obtain⟨a',rfl,ha⟩:=hx.ptr_inv;cases hy;subst hT;exact(SRel.behindNumber ha).bind fun g hg u v huv=>SRel.addrMod _ huv.1 _
 ·obtain⟨b',rfl,hb⟩:=hy.ptr_inv;cases hx;subst hT;exact(SRel.behindNumber hb).bind fun g hg u v huv=>SRel.addrMod _ huv.1 _
 all_goals first
  |exact SRel.unsupported
  |exact SRel.stuck
end Co
