/- Texts of this seat,put together: ClV,ClH,ClO,ClO2,ClO3,ClO4. -/
import Derived.Test.YtlaipigilikmbaaGreatDoorMb1
namespace Go.Proofs.YtlaipigilikmbaaGreatDoor
noncomputable section
set_option linter.unusedVariables false
set_option linter.unusedSimpArgs false
namespace Cl
open Conc Co
structure Ev where
 A:Nat→Prop
 ok:FuncId→Prop
 code:Code→Prop
 fn:FuncId→Prop
inductive CV (E:Ev):Value→Prop
 |bool (b:Bool):CV E (.bool b)
 |int (k:IntKind) (n:Int):CV E (.int k n)
 |string (s:ByteArray):CV E (.string s)
 |ptrN:CV E (.pointer none)
 |ptr {a:Addr} (h:E.A a.block):CV E (.pointer (some a))
 |sliceN (n c:Nat):CV E (.slice none n c)
 |slice {a:Addr} {n c:Nat} (h:E.A a.block):CV E (.slice (some a) n c)
 |mapN:CV E (.map none)
 |map {r:Nat} (h:E.A r):CV E (.map (some r))
 |chanN:CV E (.chan none)
 |chan {r:Nat} (h:E.A r):CV E (.chan (some r))
 |func {f:FuncId} {x y:Array Value} (h:E.ok f) (hx:∀ u,u∈x→CV E u) (hy:∀ u,u∈y→CV E u):CV E (.func (.func f) x y)
 |yield {l:Nat} {x y:Array Value} (h:E.A l) (hx:∀ u,u∈x→CV E u) (hy:∀ u,u∈y→CV E u):CV E (.func (.yield l) x y)
 |nilFunc:CV E .nilFunc
 |iface {t:TypeId} {v:Value} (h:CV E v):CV E (.iface t v)
 |nilIface:CV E .nilIface
 |agg {x:Array Value} (h:∀ u,u∈x→CV E u):CV E (.agg x)
 |tuple {x:Array Value} (h:∀ u,u∈x→CV E u):CV E (.tuple x)
def CA(E:Ev)(x:Array Value):Prop:=∀ u∈x,CV E u
inductive CD (E:Ev):Deferred→Prop
 |fn {f:FuncId} {x y:Array Value} (h:E.ok f) (hx:CA E x) (hy:CA E y):CD E ⟨.fn (.func f) x,y⟩
 |mark {r:Nat} (h:E.A r):CD E ⟨.collected r,#[]⟩
 |nil {y:Array Value}:CD E ⟨.nil,y⟩
 |yield {l:Nat} {x y:Array Value} (h:E.A l) (hy:CA E y):CD E ⟨.fn (.yield l) x,y⟩
inductive CO (E:Ev):Obj→Prop
 |cells {c:Array Value} {e:TypeId} {fr:Nat×Nat} (h:CA E c):CO E (.cells c e fr)
 |map {es:Array MapEntry} {k:Nat} (h:∀ x∈es,CV E x.key∧CV E x.val):CO E (.map es k)
 |chan {cap s r:Nat} {buf:Array Value} {cl tm:Bool} (h:CA E buf):CO E (.chan cap buf cl s r tm)
 |stringIter (s:ByteArray) (p:Nat):CO E (.stringIter s p)
 |mapIterN {a:Nat} {b:Array Nat} {c:Nat}:CO E (.mapIter none a b c)
 |mapIter {m a:Nat} {b:Array Nat} {c:Nat} (h:E.A m):CO E (.mapIter (some m) a b c)
 |loop {l:Loop} (ht:CA E l.tmps) (hf:E.fn l.fn) (ha:E.code l.assign) (hb:E.code l.body) (hp:∀ c,l.pending=some c→E.code c) (hd:E.A l.defers):CO E (.loop l)
 |deferred {ds:Option (List Deferred)} (h:∀ l,ds=some l→∀ d∈l,CD E d):CO E (.deferred ds)
 |number {a:Addr} {l:Bool} (h:E.A a.block):CO E (.number a l)
section
variable {E:Ev}{x y:Array Value}{v:Value}
theorem CA.empty:CA E #[]:=fun u h=>by simp at h
theorem CA.one(h:CV E v):CA E #[v]:=fun u hu=>by simp at hu;subst hu;exact h
theorem CA.push(h:CA E x)(hv:CV E v):CA E (x.push v):=fun u hu=>by
 rcases Array.mem_push.1 hu with hu|rfl
 ·exact h u hu
 ·exact hv
theorem CA.append(h:CA E x)(k:CA E y):CA E (x++y):=fun u hu=>(Array.mem_append.1 hu).elim (h u) (k u)
theorem CA.set(h:CA E x)(i:Nat)(hv:CV E v):CA E (x.setIfInBounds i v):=fun u hu=>by
 rcases Array.mem_or_eq_of_mem_setIfInBounds hu with hu|rfl
 ·exact h u hu
 ·exact hv
theorem CA.extract(h:CA E x)(i j:Nat):CA E (x.extract i j):=fun u hu=>by
 obtain⟨k,hk,rfl⟩:=Array.mem_iff_getElem.1 hu;rw[Array.getElem_extract];exact h _ (Array.getElem_mem _)
theorem CA.get(h:CA E x){i:Nat}{u:Value}(e:x[i]? = some u):CV E u:=h u (Array.mem_of_getElem? e)
theorem iD:CV E undef:=.tuple fun u h=>by simp at h
theorem CA.getD(h:CA E x)(i:Nat):CV E (x.getD i undef):=by
 rw[Array.getD_eq_getD_getElem?]
 cases e:x[i]? with
 |none=>exact iD
 |some u=>exact h.get e
theorem CA.getBang(h:CA E x)(i:Nat)(hd:CV E default):CV E x[i]!:=by
 rw[Array.getElem!_eq_getD,Array.getD_eq_getD_getElem?]
 cases e:x[i]? with
 |none=>exact hd
 |some u=>exact h.get e
theorem CA.replicate(h:CV E v)(n:Nat):CA E (Array.replicate n v):=fun u hu=>by
 obtain⟨-,rfl⟩:=Array.mem_replicate.1 hu;exact h
theorem CV.cells(h:CV E v):CA E v.cells:=by
 cases h with
 |agg h=>exact h
 |bool=>exact .one (.bool _)
 |int=>exact .one (.int _ _)
 |string=>exact .one (.string _)
 |ptrN=>exact .one .ptrN
 |ptr h=>exact .one (.ptr h)
 |sliceN=>exact .one (.sliceN _ _)
 |slice h=>exact .one (.slice h)
 |mapN=>exact .one .mapN
 |map h=>exact .one (.map h)
 |chanN=>exact .one .chanN
 |chan h=>exact .one (.chan h)
 |func h a b=>exact .one (.func h a b)
 |yield h a b=>exact .one (.yield h a b)
 |nilFunc=>exact .one .nilFunc
 |iface h=>exact .one (.iface h)
 |nilIface=>exact .one .nilIface
 |tuple h=>exact .one (.tuple h)
end
structure HC(E:Ev)(w:World):Prop where
 obj:∀ r o,E.A r→w.heap[r]? = some o→CO E o
 top:∀ x,w.heap.size≤x→E.A x
def EvA(E:Ev)(n:Nat)(e:Event):Prop :=
 (∃a:Addr,e.loc=.cell a∧E.A a.block∧a.block<n)∨(∃r,e.loc=.obj r∧E.A r∧r<n∧(e.sync=false∨e.write=false))∨e.loc=.mark .noRoom∨(∃i,e.loc=.mark (.extern i))∨e.loc=.output
theorem EvA.mono{E:Ev}{n m:Nat}{e:Event}(h:EvA E n e)(hn:n≤m):EvA E m e:=by
 rcases h with⟨a,h1,h2,h3⟩|⟨r,h1,h2,h3,h4⟩|h|h
 ·exact .inl ⟨a,h1,h2,Nat.lt_of_lt_of_le h3 hn⟩
 ·exact .inr (.inl ⟨r,h1,h2,Nat.lt_of_lt_of_le h3 hn,h4⟩)
 ·exact .inr (.inr (.inl h))
 ·exact .inr (.inr (.inr h))
structure Fw(E:Ev)(w w':World):Prop where
 size:w.heap.size≤w'.heap.size
 keep:∀ x,x<w.heap.size→¬ E.A x→w'.heap[x]? = w.heap[x]?
 os:w'.os=w.os
 output:w'.output=w.output
theorem Fw.refl{E:Ev}(w:World):Fw E w w:=⟨Nat.le_refl _,fun _ _ _=>rfl,rfl,rfl⟩
theorem Fw.trans{E:Ev}{a b c:World}(h:Fw E a b)(k:Fw E b c):Fw E a c :=
 ⟨Nat.le_trans h.size k.size,fun x hx hn=>(k.keep x (Nat.lt_of_lt_of_le hx h.size) hn).trans (h.keep x hx hn),k.os.trans h.os,k.output.trans h.output⟩
def Ok1{α:Type}(E:Ev)(w:World)(es:Array Event)(Q:α→Prop):Result α×Array Event→Prop
 |(.ok a w',es')=>Q a∧HC E w'∧Fw E w w'∧∃ new,es'=es++new∧∀ e∈new,EvA E w'.heap.size e
 |(.halt (.panic v) w',es')=>CV E v∧HC E w'∧Fw E w w'∧∃ new,es'=es++new∧∀ e∈new,EvA E w'.heap.size e
 |(.halt .goexit _,_)=>False
 |_=>True
def LocT{α:Type}(P:Program)(s:Sem α)(w:World)(es:Array Event):Prop :=
 match s.runT P w es with
 |(.ok a w',es')=>∃ n,w'.drawn=w.drawn+n∧w'.tape=w.tape∧∀ τ d,(∀i,i<n→τ (d+i)=w.tape (w.drawn+i))→s.runT P (re w τ d) es=(.ok a (re w' τ (d+n)),es')
 |(.halt (.panic v) w',es')=>∃ n,w'.drawn=w.drawn+n∧w'.tape=w.tape∧∀ τ d,(∀i,i<n→τ (d+i)=w.tape (w.drawn+i))→s.runT P (re w τ d) es=(.halt (.panic v) (re w' τ (d+n)),es')
 |_=>True
def U{α:Type}(P:Program)(E:Ev)(s:Sem α)(Q:α→Prop):Prop:=∀ w es,HC E w→Ok1 E w es Q (s.runT P w es)∧LocT P s w es
section
variable {P:Program}{E:Ev}{α β:Type}{Q:α→Prop}{R:β→Prop}
theorem LocT.still{s:Sem α}{w:World}{es:Array Event}(hd:∀ a w' es',s.runT P w es=(.ok a w',es')→w'.drawn=w.drawn∧w'.tape=w.tape)(hp:∀ v w' es',s.runT P w es=(.halt (.panic v) w',es')→w'.drawn=w.drawn∧w'.tape=w.tape)
 (h:∀ τ d,s.runT P (re w τ d) es=(reR (s.runT P w es).1 τ d,(s.runT P w es).2)):LocT P s w es:=by
 unfold LocT;generalize hr:s.runT P w es=r at h hd hp;obtain⟨r,es'⟩:=r
 cases r with
 |ok a w'=>exact⟨0,(hd _ _ _ rfl).1,(hd _ _ _ rfl).2,fun τ d _=>h τ d⟩
 |halt x w' =>
  cases x with
  |panic v=>exact⟨0,(hp _ _ _ rfl).1,(hp _ _ _ rfl).2,fun τ d _=>h τ d⟩
  |_=>trivial
theorem LocT.ok{s:Sem α}{w w':World}{a:α}{es es':Array Event}(h0:s.runT P w es=(.ok a w',es'))(h1:w'.drawn=w.drawn)(h2:w'.tape=w.tape)(h:∀ τ d,s.runT P (re w τ d) es=(.ok a (re w' τ d),es')):LocT P s w es:=by
 unfold LocT;rw[h0];exact⟨0,h1,h2,fun τ d _=>h τ d⟩
theorem U.pure{a:α}(h:Q a):U P E (Pure.pure a:Sem α) Q:=fun w es hw=>⟨⟨h,hw,.refl w,#[],by simp,fun e he=>by simp at he⟩,.ok rfl rfl rfl fun _ _=>rfl⟩
theorem U.mono{s:Sem α}{Q':α→Prop}(h:U P E s Q)(hq:∀ a,Q a→Q' a):U P E s Q':=by
 intro w es hw;obtain⟨h1,h2⟩:=h w es hw;refine⟨?_,h2⟩
 revert h1
 generalize s.runT P w es=r;obtain⟨r,es'⟩:=r
 cases r with
 |ok a w'=>exact fun⟨h1,h2⟩=>⟨hq _ h1,h2⟩
 |halt x w'=>cases x<;>exact id
theorem U.bind{s:Sem α}{k:α→Sem β}(h:U P E s Q)(hk:∀ a,Q a→U P E (k a) R):U P E (s >>= k) R:=by
 intro w es hw;obtain⟨h1,hl⟩:=h w es hw
 have eb:∀ w es,(s >>= k:Sem β).runT P w es=(match s.runT P w es with|(.ok a w,es)=>(k a).runT P w es|(.halt h w,es)=>(.halt h w,es)):=fun w es=>by
  show(Sem.bind s k).runT P w es=_;rw[Sem.runT_bind'];generalize s.runT P w es=r;obtain⟨r,es'⟩:=r
  cases r<;>rfl
 unfold LocT at hl⊢;rw[eb]
 revert h1 hl
 generalize hr:s.runT P w es=r;obtain⟨r,es'⟩:=r
 cases r with
 |ok a w' =>
  rintro⟨h1,h2,h3,new,rfl,h4⟩ ⟨n,l1,l2,l3⟩;obtain⟨h5,hl2⟩:=hk a h1 w' (es++new) h2;unfold LocT at hl2
  dsimp only
  revert h5 hl2
  generalize hr2:(k a).runT P w' (es++new)=r2;obtain⟨r2,es2⟩:=r2
  cases r2 with
  |ok b w2 =>
   rintro⟨k1,k2,k3,new2,rfl,k4⟩ ⟨m,m1,m2,m3⟩;refine⟨⟨k1,k2,h3.trans k3,new++new2,by simp,fun e he=>?_⟩,n+m,by omega,m2.trans l2,fun τ d ht=>?_⟩
   ·rcases Array.mem_append.1 he with he|he
    ·exact(h4 e he).mono k3.size
    ·exact k4 e he
   ·rw[eb,l3 τ d fun i hi=>ht i (by omega)]
    dsimp only
    rw[m3 τ (d+n) fun i hi=>?_,Nat.add_assoc];have:=ht (n+i) (by omega);rw[Nat.add_assoc,this,l2,l1,Nat.add_assoc]
  |halt x w2 =>
   cases x with
   |panic v =>
    rintro⟨k1,k2,k3,new2,rfl,k4⟩ ⟨m,m1,m2,m3⟩;refine⟨⟨k1,k2,h3.trans k3,new++new2,by simp,fun e he=>?_⟩,n+m,by omega,m2.trans l2,fun τ d ht=>?_⟩
    ·rcases Array.mem_append.1 he with he|he
     ·exact(h4 e he).mono k3.size
     ·exact k4 e he
    ·rw[eb,l3 τ d fun i hi=>ht i (by omega)]
     dsimp only
     rw[m3 τ (d+n) fun i hi=>?_,Nat.add_assoc];have:=ht (n+i) (by omega);rw[Nat.add_assoc,this,l2,l1,Nat.add_assoc]
   |goexit=>exact fun h _=>h.elim
   |_=>exact fun _ _=>⟨trivial,trivial⟩
 |halt x w' =>
  cases x with
  |panic v =>
   rintro h ⟨n,l1,l2,l3⟩;refine⟨h,n,l1,l2,fun τ d ht=>?_⟩;rw[eb,l3 τ d ht]
  |goexit=>exact fun h _=>h.elim
  |_=>exact fun _ _=>⟨trivial,trivial⟩
theorem U.map{s:Sem α}{f:α→β}(h:U P E s Q)(hf:∀ a,Q a→R (f a)):U P E (f <$> s) R:=by
 have e:(f <$> s)=(s >>= fun a=>Pure.pure (f a)):=rfl;rw[e];exact h.bind fun a ha=>.pure (hf a ha)
theorem U.stuck{why:String}:U P E (stuck why:Sem α) Q:=fun w es hw=>⟨trivial,trivial⟩
theorem U.unsupported{u:Unsupported}:U P E (unsupported u:Sem α) Q:=fun w es hw=>⟨trivial,trivial⟩
theorem U.fatal{m:String}:U P E (fatal m:Sem α) Q:=fun w es hw=>⟨trivial,trivial⟩
theorem U.throw{m:String}:U P E (throw m:Sem α) Q:=fun w es hw=>⟨trivial,trivial⟩
theorem U.env:U P E (sys .env) fun _=>True:=fun w es hw=>by
 have e:∀ w:World,(sys .env).runT P w es=(.ok (.strings w.os.env) w,es.push ⟨.output,true,false⟩):=fun w=>rfl;refine⟨?_,?_⟩
 ·rw[e]
  exact⟨trivial,hw,.refl w,#[⟨.output,true,false⟩],by simp,fun e he=>by simp at he;subst he;exact .inr (.inr (.inr (.inr rfl)))⟩
 ·unfold LocT;rw[e];exact⟨0,rfl,rfl,fun τ d _=>by rw[e];rfl⟩
theorem U.goPanic{v:Value}(h:CV E v):U P E (goPanic v:Sem α) Q:=fun w es hw=>⟨⟨h,hw,.refl w,#[],by simp,fun e he=>by simp at he⟩,0,rfl,rfl,fun _ _ _=>rfl⟩
theorem U.program{Q:Program→Prop}(h:Q P):U P E program Q:=fun w es hw=>⟨⟨h,hw,.refl w,#[],by simp,fun e he=>by simp at he⟩,.ok rfl rfl rfl fun _ _=>rfl⟩
def Pu(P:Program)(s:Sem α)(Q:α→Prop):Prop:=(∃a,Q a∧∀ w es,s.runT P w es=(.ok a w,es))∨∃h,(∀v,h≠.panic v)∧h≠.goexit∧∀ w es,s.runT P w es=(.halt h w,es)
theorem Pu.u{s:Sem α}(h:Pu P s Q):U P E s Q:=by
 intro w es hw;rcases h with⟨a,h1,h2⟩|⟨x,h1,h3,h2⟩
 ·unfold LocT;rw[h2];exact⟨⟨h1,hw,.refl w,#[],by simp,fun e he=>by simp at he⟩,0,rfl,rfl,fun τ d _=>h2 _ _⟩
 ·unfold LocT;rw[h2]
  cases x with
  |panic v=>exact absurd rfl (h1 v)
  |goexit=>exact absurd rfl h3
  |_=>exact⟨trivial,trivial⟩
theorem Pu.pure{a:α}(h:Q a):Pu P (Pure.pure a:Sem α) Q:=.inl ⟨a,h,fun _ _=>rfl⟩
theorem Pu.stuck{why:String}:Pu P (stuck why:Sem α) Q:=.inr ⟨_,fun _ h=>(by cases h),fun h=>(by cases h),fun _ _=>rfl⟩
theorem Pu.unsupported{u:Unsupported}:Pu P (unsupported u:Sem α) Q:=.inr ⟨_,fun _ h=>(by cases h),fun h=>(by cases h),fun _ _=>rfl⟩
theorem Pu.program{Q:Program→Prop}(h:Q P):Pu P program Q:=.inl ⟨P,h,fun _ _=>rfl⟩
theorem Pu.bind{s:Sem α}{k:α→Sem β}(h:Pu P s Q)(hk:∀ a,Q a→Pu P (k a) R):Pu P (s >>= k) R:=by
 rcases h with⟨a,h1,h2⟩|⟨x,h1,h3,h2⟩
 ·rcases hk a h1 with⟨b,k1,k2⟩|⟨y,k1,k3,k2⟩
  ·refine .inl ⟨b,k1,fun w es=>?_⟩;show(Sem.bind s k).runT P w es=_;rw[Sem.runT_bind',h2];exact k2 w es
  ·refine .inr ⟨y,k1,k3,fun w es=>?_⟩;show(Sem.bind s k).runT P w es=_;rw[Sem.runT_bind',h2];exact k2 w es
 ·refine .inr ⟨x,h1,h3,fun w es=>?_⟩;show(Sem.bind s k).runT P w es=_;rw[Sem.runT_bind',h2]
theorem Pu.mono{s:Sem α}{Q':α→Prop}(h:Pu P s Q)(hq:∀ a,Q a→Q' a):Pu P s Q':=by
 rcases h with⟨a,h1,h2⟩|h
 ·exact .inl ⟨a,hq a h1,h2⟩
 ·exact .inr h
theorem aZ(t:TypeId):Pu P (typeInfo t) fun i=>P.info? t=some i:=by
 unfold typeInfo;refine(Pu.program (Q:=fun p=>p=P) rfl).bind fun p e=>?_;subst e
 cases h:p.info? t with
 |none=>exact .stuck
 |some i=>exact .pure rfl
theorem ae(t:TypeId):Pu P (underlying t) fun d=>P.underlying t=some d:=by
 unfold underlying;refine(Pu.program (Q:=fun p=>p=P) rfl).bind fun p e=>?_;subst e
 cases h:p.underlying t with
 |none=>exact .stuck
 |some i=>exact .pure rfl
theorem aT(t:TypeId):Pu P (sizeOf t) fun _=>True:=(aZ t).bind fun i _=>.pure trivial
theorem pu_isAgg(t:TypeId):Pu P (isAgg t) fun _=>True:=by
 unfold isAgg;refine(ae t).bind fun d _=>?_
 split<;>exact .pure trivial
def ZC(P:Program)(E:Ev)(t:TypeId):Prop:=∀ i v,P.info? t=some i→i.zero=some v→CV E v
theorem iL{t:TypeId}(h:ZC P E t):Pu P (zeroValue t) fun v=>CV E v:=by
 unfold zeroValue;refine(aZ t).bind fun i hi=>?_
 cases hz:i.zero with
 |none=>exact .unsupported
 |some v=>exact .pure (h i v hi hz)
theorem jA(v:Value):Pu P (asIntOf v) fun _=>True:=by
 cases v with
 |int k n=>exact .pure trivial
 |pointer a=>cases a;exact .stuck;exact .unsupported
 |_=>exact .stuck
theorem mP(v:Value):Pu P (asInt v) fun _=>True:=(jA v).bind fun _ _=>.pure trivial
theorem pu_asBool(v:Value):Pu P (asBool v) fun _=>True:=by
 cases v with
 |bool b=>exact .pure trivial
 |_=>exact .stuck
theorem pu_asAgg{v:Value}(h:CV E v):Pu P (asAgg v) fun x=>CA E x:=by
 cases h with
 |agg h=>exact .pure h
 |_=>exact .stuck
theorem fU{v:Value}(h:CV E v):Pu P (Instr.sureAddr v) fun a=>E.A a.block:=by
 cases h with
 |ptr h=>exact .pure h
 |_=>exact .stuck
theorem HC.cell{w:World}(h:HC E w){a:Addr}{v:Value}(ha:E.A a.block)(hv:w.cell? a=some v):CV E v∧a.block<w.heap.size:=by
 unfold World.cell? at hv;split at hv
 ·rename_i c e fr ho;split at hv
  ·cases hv
  ·have:=h.obj _ _ ha ho
   cases this with
   |cells hc=>exact⟨hc.get hv,(Array.getElem?_eq_some_iff.1 ho).1⟩
 ·cases hv
theorem U.load{a:Addr}{m:Mode}(ha:E.A a.block):U P E (Go.load a m) (CV E):=by
 intro w es hw
 have e0:∀ w es,(Go.load a m).runT P w es=(match w.cell? a with
  |some v=>((.ok v w:Result Value),es.push ⟨.cell a,false,m==.atomic⟩)
  |none=>match w.farLoad P a (m==.atomic) with
   |.ok (v,touched)=>(.ok v w,es++touched.toArray.map (⟨.cell ·,false,m==.atomic⟩))
   |.error h=>(.halt h w,es)):=fun w es=>by
  unfold Go.load;simp only[Sem.runT]
  cases w.cell? a with
  |some v=>rfl
  |none =>
   dsimp only
   cases w.farLoad P a (m==.atomic)<;>rfl
 cases hv:w.cell? a with
 |some v =>
  obtain⟨h1,h2⟩:=hw.cell ha hv
  have e1:(Go.load a m).runT P w es=(.ok v w,es.push ⟨.cell a,false,m==.atomic⟩):=by rw[e0,hv]
  refine⟨?_,.ok e1 rfl rfl fun τ d=>?_⟩
  ·rw[e1]
   exact⟨h1,hw,.refl w,#[⟨.cell a,false,m==.atomic⟩],by simp,fun e he=>by simp at he;subst he;exact .inl ⟨a,rfl,ha,h2⟩⟩
  ·rw[e0,show(re w τ d).cell? a=w.cell? a from rfl,hv]
 |none =>
  have:∃ x,(∀v,x≠.panic v)∧x≠.goexit∧(Go.load a m).runT P w es=(.halt x w,es):=by
   rw[e0,hv]
   dsimp only
   unfold World.farLoad;split
   ·rename_i v w2 heq;split at heq
    ·rename_i at_ u ho;have:=hw.obj _ _ ha ho;cases this
    ·cases heq
   ·rename_i x heq;refine⟨x,?_,?_,rfl⟩
    all_goals
     split at heq
     ·rename_i at_ u ho;have:=hw.obj _ _ ha ho;cases this
     ·unfold World.noCell at heq
      intros
      split at heq<;>cases heq<;>intro h<;>cases h
  obtain⟨x,x1,x2,x3⟩:=this;unfold LocT;rw[x3]
  cases x with
  |panic v=>exact absurd rfl (x1 v)
  |goexit=>exact absurd rfl x2
  |_=>exact⟨trivial,trivial⟩
theorem HC.setCell{w:World}(h:HC E w){a:Addr}{v:Value}(hv:CV E v):HC E (w.setCell a v):=by
 refine⟨fun r o hr ho=>?_,fun x hx=>h.top x (by simpa[World.setCell] using hx)⟩;simp only[World.setCell,Array.getElem?_modify]at ho;split at ho
 ·obtain⟨o',ho',rfl⟩:=Option.map_eq_some_iff.1 ho;have:=h.obj r o' hr ho'
  cases this with
  |cells hc =>
   dsimp only
   split
   ·exact .cells hc
   ·exact .cells (hc.set _ hv)
  |map hc=>exact .map hc
  |chan hc=>exact .chan hc
  |stringIter=>exact .stringIter _ _
  |mapIterN=>exact .mapIterN
  |mapIter hc=>exact .mapIter hc
  |loop a b c d e f=>exact .loop a b c d e f
  |deferred hc=>exact .deferred hc
  |number hc=>exact .number hc
 ·exact h.obj r o hr ho
theorem run_store1{a:Addr}{v:Value}{m:Mode}(hv:CV E v)(hn:∀ x,v≠.agg x)(hn2:∀ x,v≠.tuple x)(w:World)(es:Array Event):(Go.store a v m).runT P w es=(match w.cell? a with
 |some _ =>
  if w.frozen? a then((.halt (.unsupported (.unsafePointer "a write to bytes that a string shares")) w:Result Unit),es)
  else(.ok () (w.setCell a v),es.push ⟨.cell a,true,m==.atomic⟩)
 |none=>match w.farStore P a v (m==.atomic) with
  |.ok (w,touched)=>(.ok () w,es++touched.toArray.map (⟨.cell ·,true,m==.atomic⟩))
  |.error h=>(.halt h w,es)):=by
 cases hv with
 |agg h=>exact absurd rfl (hn _)
 |tuple h=>exact absurd rfl (hn2 _)
 |_=>rfl
theorem U.store{a:Addr}{v:Value}{m:Mode}(ha:E.A a.block)(hv:CV E v):U P E (Go.store a v m) fun _=>True:=by
 intro w es hw;by_cases hn:(∃x,v=.agg x)∨∃x,v=.tuple x
 ·rcases hn with⟨x,rfl⟩|⟨x,rfl⟩<;>exact⟨trivial,trivial⟩
 have e0:=run_store1 (P:=P) (a:=a) (m:=m) hv (fun x h=>hn (.inl ⟨x,h⟩)) (fun x h=>hn (.inr ⟨x,h⟩))
 have bad:∀ x,(∀v,x≠.panic v)→x≠.goexit→(Go.store a v m).runT P w es=(.halt x w,es)→Ok1 E w es (fun _=>True) ((Go.store a v m).runT P w es)∧LocT P (Go.store a v m) w es:=fun x x1 x2 x3=>by
  unfold LocT;rw[x3]
  cases x with
  |panic v=>exact absurd rfl (x1 v)
  |goexit=>exact absurd rfl x2
  |_=>exact⟨trivial,trivial⟩
 cases hc:w.cell? a with
 |some u =>
  by_cases hz:w.frozen? a=true
  ·exact bad (.unsupported (.unsafePointer "a write to bytes that a string shares")) (fun _ h=>by cases h) (fun h=>by cases h) (by rw[e0,hc];dsimp only;rw[if_pos hz])
  ·have e1:(Go.store a v m).runT P w es=(.ok () (w.setCell a v),es.push ⟨.cell a,true,m==.atomic⟩):=by rw[e0,hc];dsimp only;rw[if_neg hz]
   refine⟨?_,.ok e1 rfl rfl fun τ d=>?_⟩
   ·rw[e1];obtain⟨h1,h2⟩:=hw.cell ha hc;refine⟨trivial,hw.setCell hv,⟨by simp[World.setCell],fun x hx hn=>?_,rfl,rfl⟩,#[⟨.cell a,true,m==.atomic⟩],by simp,fun e he=>by simp at he;subst he;exact .inl ⟨a,rfl,ha,by simpa[World.setCell] using h2⟩⟩;simp only[World.setCell,Array.getElem?_modify];rw[if_neg (fun e:a.block=x=>hn (e▸ha))]
   ·rw[e0,show(re w τ d).cell? a=w.cell? a from rfl,hc]
    dsimp only
    rw[if_neg (show ¬(re w τ d).frozen? a=true from hz)];rfl
 |none =>
  have:∃ x,(∀v,x≠.panic v)∧x≠.goexit∧(Go.store a v m).runT P w es=(.halt x w,es):=by
   rw[e0,hc]
   dsimp only
   unfold World.farStore;split
   ·rename_i w2 tt heq;split at heq
    ·rename_i at_ u ho;have:=hw.obj _ _ ha ho;cases this
    ·cases heq
   ·rename_i x heq;refine⟨x,?_,?_,rfl⟩
    all_goals
     split at heq
     ·rename_i at_ u ho;have:=hw.obj _ _ ha ho;cases this
     ·unfold World.noCell at heq
      intros
      split at heq<;>cases heq<;>intro h<;>cases h
  obtain⟨x,x1,x2,x3⟩:=this;exact bad x x1 x2 x3
theorem HC.push{w:World}(h:HC E w){o:Obj}(ho:CO E o):HC E {w with heap:=w.heap.push o}:=by
 refine⟨fun r x hr hx=>?_,fun x hx=>h.top x (by simp at hx;omega)⟩;simp only[Array.getElem?_push]at hx;split at hx
 ·cases hx;exact ho
 ·exact h.obj r x hr hx
theorem U.newObj{o:Obj}(ho:CO E o):U P E (newObj o) E.A:=by
 intro w es hw;refine⟨⟨hw.top _ (Nat.le_refl _),hw.push ho,⟨by simp,fun x hx hn=>?_,rfl,rfl⟩,#[],by simp,fun e he=>by simp at he⟩,.ok rfl rfl rfl fun _ _=>rfl⟩;simp only[Array.getElem?_push];rw[if_neg (by omega)]
theorem U.getObj{r:Nat}(hr:E.A r):U P E (getObj r) (CO E):=by
 intro w es hw
 have e0:∀ w es,(Go.getObj r).runT P w es=(match w.heap[r]? with
  |some (.cells ..)=>((.halt (.stuck "getObj: a row of cells") w:Result Obj),es)
  |some o=>(.ok o w,es.push ⟨.obj r,false,o.isChan⟩)
  |none=>(.halt (.stuck "getObj: no such block") w,es)):=fun w es=>by
  unfold Go.getObj;simp only[Sem.runT]
  cases w.heap[r]? with
  |none=>rfl
  |some o=>cases o<;>rfl
 unfold LocT;simp only[e0,dw]
 cases ho:w.heap[r]? with
 |none=>exact⟨trivial,trivial⟩
 |some o =>
  have:=hw.obj r o hr ho;have hl:=(Array.getElem?_eq_some_iff.1 ho).1
  cases o with
  |cells=>exact⟨trivial,trivial⟩
  |_=>exact⟨⟨this,hw,.refl w,#[⟨.obj r,false,_⟩],by simp;rfl,fun e he=>by simp at he;subst he;exact .inr (.inl ⟨r,rfl,hr,hl,.inr rfl⟩)⟩,0,rfl,rfl,fun τ d _=>rfl⟩
theorem HC.setObj{w:World}(h:HC E w){r:Nat}{o:Obj}(ho:CO E o):HC E {w with heap:=w.heap.setIfInBounds r o}:=by
 refine⟨fun s x hs hx=>?_,fun x hx=>h.top x (by simpa using hx)⟩;simp only[Array.getElem?_setIfInBounds]at hx;split at hx
 ·split at hx
  ·cases hx;exact ho
  ·cases hx
 ·exact h.obj s x hs hx
theorem U.setObj{r:Nat}{o:Obj}(hr:E.A r)(ho:CO E o)(hc:o.isChan=false):U P E (setObj r o) fun _=>True:=by
 intro w es hw
 have e0:∀ w es,(Go.setObj r o).runT P w es=(match w.heap[r]? with
  |some (.cells ..)=>((.halt (.stuck "setObj: a row of cells") w:Result Unit),es)
  |some _=>(.ok () {w with heap:=w.heap.setIfInBounds r o},es.push ⟨.obj r,true,o.isChan⟩)
  |none=>(.halt (.stuck "setObj: no such block") w,es)):=fun _ _=>rfl
 unfold LocT;simp only[e0,dw]
 cases hx:w.heap[r]? with
 |none=>exact⟨trivial,trivial⟩
 |some x =>
  have hl:=(Array.getElem?_eq_some_iff.1 hx).1
  have fin:Ok1 E w es (fun _=>True) ((.ok () {w with heap:=w.heap.setIfInBounds r o}:Result Unit),es.push ⟨.obj r,true,o.isChan⟩):=by
   refine⟨trivial,hw.setObj ho,⟨by simp,fun y hy hn=>?_,rfl,rfl⟩,#[⟨.obj r,true,o.isChan⟩],by simp,fun e he=>by simp at he;subst he;exact .inr (.inl ⟨r,rfl,hr,by simpa using hl,.inl hc⟩)⟩;simp only[Array.getElem?_setIfInBounds];rw[if_neg (fun e:r=y=>hn (e▸hr))]
  cases x with
  |cells=>exact⟨trivial,trivial⟩
  |_=>exact⟨fin,0,rfl,rfl,fun τ d _=>rfl⟩
theorem U.choose{q:Question}:U P E (choose q) fun _=>True:=by
 intro w es hw;have e0:∀ w es,(Go.choose q).runT P w es=(if q.forced then((.ok 0 w:Result Nat),es) else(.ok (q.cut (w.tape w.drawn q)) {w with drawn:=w.drawn+1},es)):=fun _ _=>rfl;by_cases hq:q.forced=true
 ·have e1:∀ w,(Go.choose q).runT P w es=(.ok 0 w,es):=fun w=>by rw[e0,if_pos hq]
  refine⟨?_,.ok (e1 w) rfl rfl fun τ d=>e1 _⟩;rw[e1];exact⟨trivial,hw,.refl w,#[],by simp,fun e he=>by simp at he⟩
 ·have e1:∀ w,(Go.choose q).runT P w es=(.ok (q.cut (w.tape w.drawn q)) {w with drawn:=w.drawn+1},es):=fun w=>by rw[e0,if_neg hq]
  unfold LocT;rw[e1];refine⟨⟨trivial,⟨hw.obj,hw.top⟩,⟨Nat.le_refl _,fun _ _ _=>rfl,rfl,rfl⟩,#[],by simp,fun e he=>by simp at he⟩,1,rfl,rfl,fun τ d ht=>?_⟩;have:=ht 0 (by omega);simp only[Nat.add_zero]at this;rw[e1];simp only[jW,eu,this];rfl
theorem U.mark{m:Mark}(h:m=.noRoom∨∃i,m=.extern i):U P E (mark m) fun _=>True:=by
 intro w es hw;refine⟨⟨trivial,hw,.refl w,#[⟨.mark m,false,true⟩],by simp,fun e he=>?_⟩,.ok rfl rfl rfl fun _ _=>rfl⟩;simp at he;subst he;rcases h with rfl|⟨i,rfl⟩
 ·exact .inr (.inr (.inl rfl))
 ·exact .inr (.inr (.inr (.inl ⟨i,rfl⟩)))
theorem U.shape(r:Nat):U P E (shape r) fun _=>True:=fun w es hw=>⟨⟨trivial,hw,.refl w,#[],by simp,fun e he=>by simp at he⟩,.ok rfl rfl rfl fun _ _=>rfl⟩
theorem U.frozen(a:Addr):U P E (frozen a) fun _=>True:=fun w es hw=>⟨⟨trivial,hw,.refl w,#[],by simp,fun e he=>by simp at he⟩,.ok rfl rfl rfl fun _ _=>rfl⟩
theorem HC.freeze{w:World}(h:HC E w)(a:Addr)(n:Nat):HC E (w.freeze a n):=by
 unfold World.freeze;split
 ·exact h
 ·refine⟨fun r o hr ho=>?_,fun x hx=>h.top x (by simpa using hx)⟩;simp only[Array.getElem?_modify]at ho;split at ho
  ·obtain⟨o',ho',rfl⟩:=Option.map_eq_some_iff.1 ho;have:=h.obj r o' hr ho'
   cases this with
   |cells hc=>exact .cells hc
   |map hc=>exact .map hc
   |chan hc=>exact .chan hc
   |stringIter=>exact .stringIter _ _
   |mapIterN=>exact .mapIterN
   |mapIter hc=>exact .mapIter hc
   |loop a b c d e f=>exact .loop a b c d e f
   |deferred hc=>exact .deferred hc
   |number hc=>exact .number hc
  ·exact h.obj r o hr ho
theorem U.freeze{a:Addr}{n:Nat}(ha:E.A a.block):U P E (freeze a n) fun _=>True:=by
 intro w es hw;refine⟨⟨trivial,hw.freeze a n,⟨by unfold World.freeze;split<;>simp,fun x hx hn=>?_,by unfold World.freeze;split<;>rfl,by unfold World.freeze;split<;>rfl⟩,#[],by simp,fun e he=>by simp at he⟩,.ok (w':=w.freeze a n) rfl (by unfold World.freeze;split<;>rfl) (by unfold World.freeze;split<;>rfl) fun τ d=>?_⟩
 ·unfold World.freeze;split
  ·rfl
  ·simp only[Array.getElem?_modify];rw[if_neg (fun e:a.block=x=>hn (e▸ha))]
 ·show((Result.ok () ((re w τ d).freeze a n):Result Unit),es)=_;unfold World.freeze;split<;>rfl
end
end Cl
namespace Cl
open Conc Co
section
variable {P:Program}{E:Ev}{α β:Type}{Q:α→Prop}
theorem add_block(a:Addr)(n:Nat):(a.add n).block=a.block:=by unfold Addr.add;split<;>rfl
theorem jH{a:Addr}(ha:E.A a.block):∀ (n i:Nat) (acc:Array Value),CA E acc→U P E (loadCellsFrom a i n acc) (CA E)
 |0,i,acc,h=>.pure h
 |n+1,i,acc,h=>(U.load (by rw[add_block];exact ha)).bind fun v hv=>jH ha n (i+1) _ (h.push hv)
theorem iO{a:Addr}(ha:E.A a.block)(n:Nat):U P E (loadCells a n) (CA E):=jH ha n 0 _ .empty
theorem dZ{a:Addr}(ha:E.A a.block):∀ (l:List Value) (i:Nat),(∀v∈l,CV E v)→U P E (storeCells a l i) fun _=>True
 |[],i,h=>.pure trivial
 |v::l,i,h=>by
  unfold storeCells;exact(U.store (by rw[add_block];exact ha) (h v (by simp))).bind fun _ _=>dZ ha l (i+1) fun u hu=>h u (by simp[hu])
theorem CA.list{x:Array Value}(h:CA E x):∀ v∈x.toList,CV E v:=fun v hv=>h v (by simpa using hv)
theorem u_loadVar{t:TypeId}{a:Addr}(ha:E.A a.block):U P E (loadVar t a) (CV E):=by
 unfold loadVar;refine(pu_isAgg t).u.bind fun b _=>?_
 cases b with
 |true=>exact(aT t).u.bind fun n _=>(iO ha n).bind fun x hx=>.pure (.agg hx)
 |false=>exact .load ha
theorem u_storeVar{t:TypeId}{a:Addr}{v:Value}(ha:E.A a.block)(hv:CV E v):U P E (storeVar t a v) fun _=>True:=by
 unfold storeVar;refine(aT t).u.bind fun n _=>?_;split
 ·exact U.bind (Q:=fun _=>True) .stuck fun _ _=>dZ ha _ 0 hv.cells.list
 ·exact dZ ha _ 0 hv.cells.list
theorem jL{t:TypeId}{x:Array Value}(h:CA E x):U P E (newRow t x) fun a=>E.A a.block:=(U.newObj (.cells h)).bind fun r hr=>.pure hr
theorem mV{t:TypeId}{v:Value}(h:CV E v):U P E (newVar t v) fun a=>E.A a.block:=jL h.cells
theorem eH{t:TypeId}{x:Array Value}(h:CA E x)(off:Nat):U P E (part t x off) (CV E):=by
 unfold part;refine(pu_isAgg t).u.bind fun b _=>?_
 cases b with
 |true=>exact(aT t).u.bind fun n _=>.pure (.agg (h.extract _ _))
 |false =>
  simp only[Bool.false_eq_true,if_false]
  cases hx:x[off]? with
  |none=>exact .stuck
  |some u=>exact .pure (h.get hx)
theorem pu_elemOf(t:TypeId):Pu P (elemOf t) fun _=>True:=by
 unfold elemOf;refine(ae t).bind fun d _=>?_;split
 ·exact .pure trivial
 ·exact .stuck
theorem ints_ca{x:Array Value}(h:∀ u∈x,∃k n,u=Value.int k n):CA E x:=fun u hu=>by
 obtain⟨k,n,rfl⟩:=h u hu;exact .int _ _
theorem ah(hG:E.A P.globals.size)(e:RuntimeError):U P E (runtimePanic e:Sem α) Q:=by
 have hh:∀ t:Option TypeId,CV E (match t with|some t=>typeHandle P t|none=>.pointer none):=fun t=>by
  cases t with
  |none=>exact .ptrN
  |some t=>exact .ptr hG
 unfold runtimePanic;refine(U.program (Q:=fun p=>p=P) rfl).bind fun p hp=>?_;subst hp
 cases e with
 |bounds x y s c =>
  refine .goPanic (.iface (.agg fun u hu=>?_));simp at hu;rcases hu with rfl|rfl|rfl|rfl
  ·exact .int _ _
  ·exact .int _ _
  ·exact .bool _
  ·exact .int _ _
 |error m=>exact .goPanic (.iface (.string _))
 |plain m=>exact .goPanic (.iface (.string _))
 |nilDeref=>exact .goPanic (.iface (.string _))
 |typeAssertion i c a m =>
  refine(pu_elemOf _).u.bind fun t _=>(mV (.agg fun u hu=>?_)).bind fun r hr=>.goPanic (.iface (.ptr hr));simp at hu;rcases hu with rfl|rfl|rfl|rfl
  ·exact hh i
  ·exact hh c
  ·exact .ptr hG
  ·exact .string _
 |panicNil=>exact(pu_elemOf _).u.bind fun t _=>(mV (.agg fun u hu=>by simp at hu)).bind fun r hr=>.goPanic (.iface (.ptr hr))
 |unhashable t =>
  refine .goPanic (.iface (.agg fun u hu=>?_));simp at hu;subst hu;exact .ptr hG
theorem dK(hG:E.A P.globals.size)(k:IntKind)(x y:Int)(c:BoundsCode):U P E (boundsPanic k x y c:Sem α) Q:=by
 unfold boundsPanic;have h:∀ b:Bool,U P E (runtimePanic (.bounds (IntKind.i64.wrap x) y b c):Sem α) Q:=fun b=>ah hG _
 dsimp only
 split
 ·exact(U.choose.map (R:=fun _=>True) fun _ _=>trivial).bind fun b _=>h b
 ·exact h _
theorem u_viewAt{r:Nat}(hr:E.A r):U P E (viewAt r) fun o=>o=none:=by
 unfold viewAt;refine(U.shape r).bind fun s _=>?_;split
 ·exact .pure rfl
 ·refine(U.getObj hr).bind fun o ho=>?_;cases ho<;>exact .pure rfl
theorem u_numberAt{r:Nat}(hr:E.A r):U P E (numberAt r) fun o=>∀ x,o=some x→E.A x.1.block:=by
 unfold numberAt;refine(U.shape r).bind fun s _=>?_;split
 ·exact .pure fun x e=>by cases e
 ·refine(U.getObj hr).bind fun o ho=>?_
  cases ho with
  |number h=>exact .pure fun x e=>by cases e;exact h
  |_=>exact .pure fun x e=>by cases e
theorem aA{a:Addr}(ha:E.A a.block):U P E (behindNumber a) fun x=>E.A x.1.block:=by
 unfold behindNumber;refine(u_numberAt ha).bind fun o ho=>?_
 cases o with
 |none=>exact .pure ha
 |some x=>exact .pure (ho x rfl)
theorem u_asNumber{a:Addr}{l:Bool}(h:E.A a.block):U P E (asNumber a l) (CV E):=(U.newObj (.number h)).bind fun r hr=>.pure (.ptr hr)
theorem u_noView{a:Addr}(ha:E.A a.block):U P E (noView a) fun _=>True:=by
 unfold noView;refine(u_viewAt ha).bind fun o ho=>?_;subst ho;exact .pure trivial
theorem gX{a:Addr}(ha:E.A a.block):U P E (byteOf a) fun _=>True:=by
 unfold byteOf;split
 ·exact .pure trivial
 ·refine(U.program (Q:=fun _=>True) trivial).bind fun p _=>(u_noView ha).bind fun _ _=>(U.shape _).bind fun s _=>?_;split
  ·dsimp only
   split
   ·exact .pure trivial
   ·split
    ·exact .pure trivial
    ·exact .stuck
  ·exact .stuck
theorem u_partAt{a:Addr}(ha:E.A a.block)(x y:Nat):U P E (partAt a x y) fun b=>E.A b.block:=by
 unfold partAt;refine(gX ha).bind fun n _=>(gX (a:={block:=a.block,off:=a.off+x}) ha).bind fun m _=>.pure ?_
 split<;>exact ha
theorem u_fieldPlace{a:Addr}(ha:E.A a.block)(f:Field):U P E (fieldPlace a f) fun b=>E.A b.block:=by
 unfold fieldPlace;refine(aT _).u.bind fun n _=>?_;split
 ·exact u_partAt ha _ _
 ·exact .pure (by rw[add_block];exact ha)
theorem u_stringish{a:Addr}:U P E (stringish a) fun _=>True:=by
 unfold stringish;refine(U.frozen a).bind fun b _=>?_;split
 ·exact .pure trivial
 ·refine(U.shape _).bind fun s _=>?_;split
  ·exact .frozen _
  ·exact .pure trivial
theorem u_mayBeOne{a b:Addr}:U P E (mayBeOne a b) fun _=>True:=by
 unfold mayBeOne;refine u_stringish.bind fun s _=>u_stringish.bind fun t _=>?_;have hn:∀ x:Addr,U P E (do pure ((←Go.shape x.block) matches some (_,0)):Sem Bool) fun _=>True:=fun x=>(U.shape _).bind fun _ _=>.pure trivial;exact(hn a).bind fun _ _=>(hn b).bind fun _ _=>.pure trivial
theorem u_sameAddr{a b:Addr}(ha:E.A a.block)(hb:E.A b.block):U P E (sameAddr a b) fun _=>True:=by
 unfold sameAddr;split
 ·exact .pure trivial
 ·refine(U.frozen a).bind fun x _=>(U.frozen b).bind fun y _=>?_
  have rest:U P E (do
   noView a
   noView b
   if ←mayBeOne a b then return (←choose (.extern "sameAddr.stringBytes" 2))==1
   Pure.pure false:Sem Bool) fun _=>True:=by
   refine(u_noView ha).bind fun _ _=>(u_noView hb).bind fun _ _=>u_mayBeOne.bind fun z _=>?_;split
   ·exact U.choose.bind fun _ _=>.pure trivial
   ·exact .pure trivial
  split
  ·exact U.bind (Q:=fun _=>True) .unsupported fun _ _=>rest
  ·exact rest
theorem u_askRoom(n:Nat):U P E (askRoom n) fun _=>True:=by
 unfold askRoom;split
 ·exact .mark (.inl rfl)
 ·exact .pure trivial
theorem u_markStringish{a:Addr}(ha:E.A a.block):U P E (markStringish a) fun _=>True:=by
 unfold markStringish;refine(U.shape _).bind fun s _=>?_;split
 ·exact .freeze ha
 ·exact .pure trivial
theorem u_forIn{γ σ:Type}(l:List γ)(I:σ→Prop)(f:γ→σ→Sem (ForInStep σ))(hf:∀ x s,I s→U P E (f x s) fun r=>match r with|.done s=>I s|.yield s=>I s):∀ s,I s→U P E (forIn l s f) I:=by
 induction l with
 |nil=>intro s hs;rw[List.forIn_nil];exact .pure hs
 |cons x l ih =>
  intro s hs;rw[List.forIn_cons];refine(hf x s hs).bind fun r hr=>?_
  cases r with
  |done s=>exact .pure hr
  |yield s=>exact ih s hr
end
end Cl
namespace Cl
open Conc Co
section
variable {P:Program}{E:Ev}{α β:Type}{Q:α→Prop}
theorem u_mapM{α β:Type}{Q:β→Prop}{f:α→Sem β}:∀ (l:List α),(∀x∈l,U P E (f x) Q)→U P E (l.mapM f) fun r=>∀ y∈r,Q y
 |[],_=>by rw[List.mapM_nil];exact .pure fun y hy=>by simp at hy
 |x::l,h=>by
  rw[List.mapM_cons];refine(h x (by simp)).bind fun y hy=>(u_mapM l fun z hz=>h z (by simp[hz])).bind fun r hr=>.pure fun z hz=>?_;rcases List.mem_cons.1 hz with rfl|hz
  ·exact hy
  ·exact hr z hz
theorem u_mapMA{α β:Type}{Q:β→Prop}{f:α→Sem β}(x:Array α)(h:∀ u∈x,U P E (f u) Q):U P E (x.mapM f) fun r=>∀ y∈r,Q y:=by
 rw[Array.mapM_eq_mapM_toList];exact(u_mapM _ fun u hu=>h u (by simpa using hu)).map fun r hr y hy=>hr y (by simpa using hy)
theorem u_alloc{t:TypeId}(hz:ZC P E t):U P E (Instr.alloc t true (.tuple #[])) (CV E):=by
 unfold Instr.alloc;exact(iL hz).u.bind fun z hz=>(mV hz).bind fun a ha=>.pure (.ptr ha)
theorem u_box{t:TypeId}{v:Value}(h:CV E v):U P E (Instr.box t v) (CV E):=(mV h).bind fun a ha=>.pure (.ptr ha)
theorem ca_fold{x:Array Value}(h:CA E x)(off:Nat):∀ (l:List (Value×Nat)),(∀p∈l,CV E p.1)→CA E (l.foldl (fun cs p=>cs.setIfInBounds (off+p.2) p.1) x):=by
 intro l
 induction l generalizing x with
 |nil=>intro _;exact h
 |cons p l ih =>
  intro hl;exact ih (h.set _ (hl p (by simp))) fun q hq=>hl q (by simp[hq])
theorem ca_fill{place:Nat→Option (Nat×Nat)}:∀ (l:List (Nat×Value)) (x:Array Value),CA E x→(∀p∈l,CV E p.2)→∀ y,Instr.fill place x l=some y→CA E y
 |[],x,h,_,y,e=>by simp only[Instr.fill,Option.some.injEq]at e;exact e▸h
 |(i,v)::rest,x,h,hl,y,e=>by
  simp only[Instr.fill]at e
  cases hp:place i with
  |none=>rw[hp]at e;cases e
  |some q =>
   rw[hp]at e
   dsimp only at e
   split at e
   ·cases e
   ·refine ca_fill rest _ ?_ (fun p hp=>hl p (by simp[hp])) y e;rw[←Array.foldl_toList];refine ca_fold h q.1 _ fun p hp=>?_;have hv:=hl (i,v) (by simp);rw[Array.toList_zipIdx]at hp;have:=List.fst_mem_of_mem_zipIdx hp;exact hv.cells p.1 (by simpa using this)
theorem u_build{t:TypeId}{parts:Array (Nat×Value)}(hz:ZC P E t)(hp:∀ p∈parts,CV E p.2):U P E (Instr.build t parts) (CV E):=by
 unfold Instr.build;refine(iL hz).u.bind fun z hzz=>(ae t).u.bind fun d _=>?_;have hl:∀ p∈parts.toList,CV E p.2:=fun p h=>hp p (by simpa using h);split
 ·refine(u_mapMA (Q:=fun _=>True) _ fun f _=>(aT _).u.bind fun n _=>.pure trivial).bind fun places _=>?_;split
  ·rename_i cells heq;exact .pure (.agg (ca_fill _ _ hzz.cells hl _ heq))
  ·exact .stuck
 ·refine(aT _).u.bind fun n _=>?_;split
  ·rename_i cells heq;exact .pure (.agg (ca_fill _ _ hzz.cells hl _ heq))
  ·exact .stuck
 ·exact .stuck
theorem ca_rows{z:Array Value}(h:CA E z)(n:Nat)(hd:CV E default):CA E ((Array.range n).map (z[·%z.size]!)):=fun u hu=>by
 obtain⟨i,-,rfl⟩:=Array.mem_map.1 hu;exact h.getBang _ hd
theorem ca_zeros{z:Array Value}(h:CA E z)(n:Nat)(hd:CV E default):CA E (Builtin.zeroCells z n):=fun u hu=>by
 obtain⟨i,-,rfl⟩:=Array.mem_map.1 hu;exact h.getBang _ hd
theorem kX:CV E default:=.bool _
theorem u_buildSlice{t:TypeId}{n:Nat}{parts:Array (Nat×Value)}(hz:∀ e,P.underlying t=some (.slice e)→ZC P E e)(hp:∀ p∈parts,CV E p.2):U P E (Instr.buildSlice t n parts) (CV E):=by
 unfold Instr.buildSlice;have hl:∀ p∈parts.toList,CV E p.2:=fun p h=>hp p (by simpa using h);refine(ae t).u.bind fun d hd=>?_;split
 ·rename_i e;refine(aT _).u.bind fun k _=>?_
  have rest:∀ z,CA E z→U P E (match Instr.fill (fun i=>some (i*k,k)) ((Array.range (n*k)).map (z[·%z.size]!)) parts.toList with
   |some cells=>do Pure.pure (.slice (some (←newRow e cells)) n n)
   |_=>stuck "buildSlice: a part of the wrong size" : Sem Value) (CV E):=fun z hzc=>by
   split
   ·rename_i cells heq;exact(jL (ca_fill _ _ (ca_rows hzc _ kX) hl _ heq)).bind fun a ha=>.pure (.slice ha)
   ·exact .stuck
  dsimp only
  split
  ·exact U.bind (Q:=fun _=>True) .unsupported fun _ _=>by
    split
    ·exact rest _ .empty
    ·exact(iL (hz e hd)).u.bind fun z hz=>rest _ hz.cells
  ·split
   ·exact rest _ .empty
   ·exact(iL (hz e hd)).u.bind fun z hz=>rest _ hz.cells
 ·exact .stuck
theorem u_loadAt{t:TypeId}{v:Value}(h:CV E v):U P E (Instr.loadAt t v) (CV E):=(fU h).u.bind fun a ha=>u_loadVar ha
theorem u_storeAt{t:TypeId}{v x:Value}(h:CV E v)(hx:CV E x):U P E (Instr.storeAt t v x) fun _=>True:=(fU h).u.bind fun a ha=>u_storeVar ha hx
theorem u_fieldAt{t:TypeId}{v:Value}(h:CV E v)(i:Nat):U P E (Instr.fieldAt t v i) (CV E):=by
 unfold Instr.fieldAt;refine(ae t).u.bind fun d hd=>?_;split
 ·split
  ·exact(fU h).u.bind fun a ha=>(u_fieldPlace ha _).bind fun b hb=>.pure (.ptr hb)
  ·exact .stuck
 ·exact .stuck
theorem u_indexAt(hG:E.A P.globals.size){t:TypeId}{v i:Value}(h:CV E v):U P E (Instr.indexAt t v i) (CV E):=by
 unfold Instr.indexAt;refine(jA i).u.bind fun p _=>?_
 have fin:∀ (base:Option Addr) (len:Nat) (elem:TypeId),(∀a,base=some a→E.A a.block)→U P E (do
  let tiny:=len≤1&&(match ←underlying t with|.array ..=>true|_=>false)
  match base with
  |some a =>
   if 0≤p.2∧p.2<len then Pure.pure (.pointer (some (a.add (p.2.toNat*(←sizeOf elem)))))
   else if tiny then unsupported (.noEntry "op/indexAddr.an index out of range at an array of length 0 or 1 (ledger 616)")
   else boundsPanic p.1 p.2 len .index
  |none=>boundsPanic p.1 p.2 0 .index:Sem Value) (CV E):=by
  intro base len elem hb;refine(ae t).u.bind fun d _=>?_
  dsimp only
  cases base with
  |none=>exact dK hG _ _ _ _
  |some a =>
   dsimp only
   split
   ·exact(aT _).u.bind fun n _=>.pure (.ptr (by rw[add_block];exact hb a rfl))
   ·split<;>split<;>first
     |exact .unsupported
     |exact dK hG _ _ _ _
 refine(ae t).u.bind fun d _=>?_;split
 ·exact(fU h).u.bind fun a ha=>fin (some a) _ _ fun b e=>by cases e;exact ha
 ·refine fin _ _ _ fun b e=>?_;subst e
  cases h with
  |slice h=>exact h
 ·exact U.bind (Q:=fun x:Option Addr×Nat×TypeId=>∀ a,x.1=some a→E.A a.block) .stuck fun x hx=>fin x.1 x.2.1 x.2.2 hx
theorem l7(hG:E.A P.globals.size)(v:Value)(n:Nat)(c:BoundsCode):U P E (Instr.sliceBound v n c) fun _=>True:=by
 unfold Instr.sliceBound;refine(jA v).u.bind fun p _=>?_;obtain⟨k,i⟩:=p
 dsimp only
 split
 ·exact .pure trivial
 ·exact dK hG _ _ _ _
theorem fE(hG:E.A P.globals.size)(b:Bool)(n c:Nat)(lo hi:Option Value):U P E (Instr.sliceBounds b n c lo hi none) fun _=>True:=by
 unfold Instr.sliceBounds
 dsimp only
 have h2:∀ h:Nat,U P E (match lo with
  |some v=>do
   let l ←Instr.sliceBound v h (if (none:Option Value).isSome=true then BoundsCode.slice3C else BoundsCode.sliceB)
   Pure.pure (l,h,c)
  |none=>Pure.pure (0,h,c):Sem (Nat×Nat×Nat)) fun _=>True:=fun h=>by
  cases lo with
  |none=>exact .pure trivial
  |some v=>exact(l7 hG _ _ _).bind fun _ _=>.pure trivial
 cases hi with
 |none=>exact h2 _
 |some v=>exact(l7 hG _ _ _).bind fun h _=>h2 h
theorem map_add_block{a:Option Addr}(h:∀ b,a=some b→E.A b.block)(n:Nat):∀ b,a.map (·.add n)=some b→E.A b.block:=fun b e=>by
 cases a with
 |none=>cases e
 |some a=>cases e;rw[add_block];exact h a rfl
theorem slice_cv{a:Option Addr}{n c:Nat}(h:∀ b,a=some b→E.A b.block):CV E (.slice a n c):=by
 cases a with
 |none=>exact .sliceN _ _
 |some a=>exact .slice (h a rfl)
theorem gZ{a:Option Addr}{n c:Nat}(h:CV E (.slice a n c)):∀ b,a=some b→E.A b.block:=fun b e=>by
 subst e
 cases h with
 |slice h=>exact h
theorem bW{a:Option Addr}(h:CV E (.pointer a)):∀ b,a=some b→E.A b.block:=fun b e=>by
 subst e
 cases h with
 |ptr h=>exact h
theorem u_asAddr(hG:E.A P.globals.size){v:Value}(h:CV E v):U P E (asAddr v) fun a=>E.A a.block:=by
 cases h with
 |ptr h=>exact .pure h
 |ptrN=>exact ah hG .nilDeref
 |_=>exact .stuck
theorem u_slice(hG:E.A P.globals.size){t:TypeId}{v:Value}(h:CV E v)(lo hi:Option Value):U P E (Instr.slice t v lo hi none) (CV E):=by
 unfold Instr.slice;refine(ae t).u.bind fun d _=>?_;split
 ·simp only[Option.isSome_none,Bool.false_eq_true,if_false];exact(fE hG _ _ _ _ _).bind fun p _=>.pure (.string _)
 ·refine(fE hG _ _ _ _ _).bind fun p _=>(aT _).u.bind fun k _=>.pure (slice_cv ?_);split
  ·exact gZ h
  ·exact map_add_block (gZ h) _
 ·refine(u_asAddr hG h).bind fun a ha=>(ae _).u.bind fun d2 _=>?_;split
  ·refine(fE hG _ _ _ _ _).bind fun p _=>(aT _).u.bind fun k _=>.pure (.slice ?_);split
   ·exact ha
   ·rw[add_block];exact ha
  ·exact .stuck
 ·exact .stuck
theorem u_sliceAt(hG:E.A P.globals.size){t:TypeId}{v:Value}(h:CV E v)(lo hi:Option Value):U P E (Instr.sliceAt t v lo hi none) (CV E):=by
 unfold Instr.sliceAt;refine(ae t).u.bind fun d _=>?_;split
 ·refine(fU h).u.bind fun a ha=>(fE hG _ _ _ _ _).bind fun p _=>(aT _).u.bind fun k _=>.pure (.slice ?_);split
  ·exact ha
  ·rw[add_block];exact ha
 ·exact u_slice hG h lo hi
theorem u_makeSlice(hG:E.A P.globals.size){t:TypeId}{l c:Value}(hz:∀ e,P.underlying t=some (.slice e)→ZC P E e):U P E (Instr.makeSlice t l c) (CV E):=by
 unfold Instr.makeSlice;refine(ae t).u.bind fun d hd=>?_;split
 ·rename_i e;refine(mP l).u.bind fun l _=>(mP c).u.bind fun c _=>(aZ _).u.bind fun i _=>?_
  have rest:∀ (u:Unit),U P E (do
   let n:=(IntKind.i64.wrap c).toNat*(←sizeOf e)
   let zero ←if n=0 then Pure.pure #[] else do Pure.pure (←zeroValue e).cells
   let a ←newRow e ((Array.range n).map (zero[·%zero.size]!))
   Pure.pure (.slice (some a) (IntKind.i64.wrap l).toNat (IntKind.i64.wrap c).toNat):Sem Value) (CV E):=fun _=>by
   refine(aT _).u.bind fun k _=>?_
   dsimp only
   have h3:∀ z,CA E z→U P E (do
    let a ←newRow e ((Array.range ((IntKind.i64.wrap c).toNat*k)).map (z[·%z.size]!))
    Pure.pure (.slice (some a) (IntKind.i64.wrap l).toNat (IntKind.i64.wrap c).toNat):Sem Value) (CV E):=fun z hzc=>(jL (ca_rows hzc _ kX)).bind fun a ha=>.pure (.slice ha)
   split
   ·exact h3 _ .empty
   ·exact(iL (hz e hd)).u.bind fun z hz=>h3 _ hz.cells
  dsimp only
  have go:U P E (do
   askRoom ((IntKind.i64.wrap c).toNat*i.bytes)
   let n:=(IntKind.i64.wrap c).toNat*(←sizeOf e)
   let zero ←if n=0 then Pure.pure #[] else do Pure.pure (←zeroValue e).cells
   let a ←newRow e ((Array.range n).map (zero[·%zero.size]!))
   Pure.pure (.slice (some a) (IntKind.i64.wrap l).toNat (IntKind.i64.wrap c).toNat):Sem Value) (CV E):=(u_askRoom _).bind fun u _=>rest u
  split
  ·split
   ·exact U.bind (Q:=fun _=>True) (ah hG _) fun _ _=>go
   ·split
    ·exact U.bind (Q:=fun _=>True) (ah hG _) fun _ _=>go
    ·exact U.choose.bind fun _ _=>U.bind (Q:=fun _=>True) (ah hG _) fun _ _=>go
  ·exact go
 ·exact .stuck
theorem u_extract{v:Value}(h:CV E v)(i:Nat):U P E (Instr.extract v i) (CV E):=by
 cases h with
 |tuple h =>
  unfold Instr.extract
  dsimp only
  split
  ·rename_i u e;exact .pure (CA.get h e)
  ·exact .stuck
 |_=>exact .stuck
theorem u_makeInterface{t:TypeId}{v:Value}(h:CV E v):U P E (Instr.makeInterface t v) (CV E):=by
 unfold Instr.makeInterface;refine(ae t).u.bind fun d _=>?_;split
 ·exact .stuck
 ·exact .pure (.iface h)
theorem u_index(hG:E.A P.globals.size){t:TypeId}{v i:Value}(h:CV E v):U P E (Instr.index t v i) (CV E):=by
 unfold Instr.index;refine(jA i).u.bind fun p _=>(ae t).u.bind fun d _=>?_;split
 ·split
  ·refine(aT _).u.bind fun n _=>eH ?_ _
   cases h with
   |agg h=>exact h
  ·exact dK hG _ _ _ _
 ·split
  ·exact .pure (.int _ _)
  ·exact dK hG _ _ _ _
 ·exact .stuck
theorem u_field{t:TypeId}{v:Value}(h:CV E v)(i:Nat):U P E (Instr.field t v i) (CV E):=by
 unfold Instr.field;refine(ae t).u.bind fun d _=>?_;split
 ·split
  ·exact(pu_asAgg h).u.bind fun x hx=>eH hx _
  ·exact .stuck
 ·exact .stuck
end
end Cl
namespace Cl
open Conc Co
section
variable {P:Program}{E:Ev}{α β:Type}{Q:α→Prop}
theorem jd{γ σ:Type}(l:Array γ)(I:σ→Prop)(f:γ→σ→Sem (ForInStep σ))(hf:∀ x s,I s→U P E (f x s) fun r=>match r with|.done s=>I s|.yield s=>I s)(s:σ)(hs:I s):U P E (forIn l s f) I:=by
 rw[←Array.forIn_toList];exact u_forIn _ I f hf s hs
theorem u_forInR{σ:Type}(l:Std.Legacy.Range)(I:σ→Prop)(f:Nat→σ→Sem (ForInStep σ))(hf:∀ x s,I s→U P E (f x s) fun r=>match r with|.done s=>I s|.yield s=>I s)(s:σ)(hs:I s):U P E (forIn l s f) I:=by
 rw[Std.Legacy.Range.forIn_eq_forIn_range'];exact u_forIn _ I f hf s hs
theorem u_lenOf(v:Value):U P E (Builtin.lenOf v) fun _=>True:=by
 cases v with
 |slice a n c=>exact .pure trivial
 |string s=>exact .pure trivial
 |_=>exact .stuck
theorem bytes_ca(s:ByteArray):CA E (s.data.map fun b=>Value.int .u8 b.toNat):=ints_ca fun u hu=>by
 obtain⟨b,-,rfl⟩:=Array.mem_map.1 hu;exact⟨_,_,rfl⟩
theorem gq{v:Value}(h:CV E v)(k n:Nat):U P E (Builtin.firstCells k n v) (CA E):=by
 cases h with
 |slice h=>exact iO h _
 |sliceN=>exact .pure .empty
 |string s=>exact .pure (bytes_ca _)
 |_=>exact .stuck
theorem u_copy{ats:Array TypeId}{t:TypeId}{args:Array Value}(h:CA E args):U P E (Builtin.copy_ ats t args) (CV E):=by
 unfold Builtin.copy_;split
 ·rename_i heq;simp only[Prod.mk.injEq]at heq;obtain⟨-,h2,h3⟩:=heq;have hd:=h.get h2;have hs:=h.get h3;refine(ae _).u.bind fun d _=>?_;split
  ·split
   ·rename_i base n c;refine(u_lenOf _).bind fun m _=>(aT _).u.bind fun k _=>(gq hs _ _).bind fun x hx=>?_
    cases base with
    |none=>exact .pure (.int _ _)
    |some a=>exact(dZ (gZ hd a rfl) _ 0 hx.list).bind fun _ _=>.pure (.int _ _)
   ·exact .stuck
  ·exact .stuck
 ·exact .stuck
theorem u_len{ats:Array TypeId}{t:TypeId}{args:Array Value}(h:CA E args):U P E (Builtin.len_ ats t args) (CV E):=by
 unfold Builtin.len_;split
 ·rename_i heq;simp only[Prod.mk.injEq]at heq;have hv:=h.get heq.2;refine(ae _).u.bind fun d _=>?_;split
  ·exact .pure (.int _ _)
  ·exact .pure (.int _ _)
  ·refine(ae _).u.bind fun d2 _=>?_;split
   ·exact .pure (.int _ _)
   ·exact .stuck
  ·exact .pure (.int _ _)
  ·exact .pure (.int _ _)
  ·exact .pure (.int _ _)
  ·cases hv with
   |map hr =>
    refine(U.getObj hr).bind fun o ho=>?_;split
    ·exact .pure (.int _ _)
    ·exact .stuck
  ·cases hv with
   |chan hr =>
    refine(U.getObj hr).bind fun o ho=>?_;split
    ·exact .pure (.int _ _)
    ·exact .stuck
  ·exact .stuck
 ·exact .stuck
theorem u_mayShare{k l n:Nat}{base:Option Addr}{x:Value}:U P E (Builtin.mayShare k l n base x) fun _=>True:=by
 have hh:∀ (a:Addr) (m:Nat),U P E (Builtin.holdsCells a m) fun _=>True:=fun a m=>by
  unfold Builtin.holdsCells;refine(U.shape _).bind fun s _=>?_
  split<;>exact .pure trivial
 unfold Builtin.mayShare
 have rest:∀ b:Bool,U P E (do
  if !b then return true
  match x with
  |.slice (some b) _ _=>do Pure.pure (!(←Builtin.holdsCells b (n*k)) || base.any (·.block==b.block))
  |_=>Pure.pure false:Sem Bool) fun _=>True:=fun b=>by
  split
  ·exact .pure trivial
  ·split
   ·exact(hh _ _).bind fun _ _=>.pure trivial
   ·exact .pure trivial
 cases base with
 |none=>exact rest true
 |some a=>exact(hh _ _).bind fun _ _=>(U.frozen _).bind fun _ _=>rest _
theorem not_int{d:TypeDesc}(h:∀ k,d≠.int k):(match (generalizing:=false) d with|.int _=>true|_=>false)=false:=by
 cases d with
 |int k=>exact absurd rfl (h k)
 |_=>rfl
theorem u_append(hG:E.A P.globals.size){t t2 ty:TypeId}{s x:Value}(hs:CV E s)(hx:CV E x)(hn:∀ d,P.underlying t2=some d→∀ k,d≠.int k)(hz:∀ e,P.underlying t=some (.slice e)→ZC P E e):U P E (Builtin.append_ #[t,t2] ty #[s,x]) (CV E):=by
 unfold Builtin.append_;simp only[List.getElem?_toArray,List.getElem?_cons_zero,List.getElem?_cons_succ];refine(ae _).u.bind fun d hd=>?_;split
 ·rename_i elem;split
  ·rename_i base n c;refine(aT _).u.bind fun k _=>(ae _).u.bind fun d2 hd2=>?_;refine U.bind (Q:=fun b=>b=false) (.pure (not_int (hn _ hd2))) fun z hz0=>?_;subst hz0;simp only[Bool.false_eq_true,if_false,Bool.not_false,if_true,false_or];refine(u_lenOf _).bind fun m _=>?_;split
   ·refine(gq hx _ _).bind fun new hnew=>?_
    cases base with
    |none=>exact .pure (.sliceN _ _)
    |some a=>exact(dZ (by rw[add_block];exact gZ hs a rfl) _ 0 hnew.list).bind fun _ _=>.pure (.slice (gZ hs a rfl))
   ·have fin:U P E (do
     let newCap ←choose (.appendCap (n+m) c elem)
     askRoom (newCap*(←typeInfo elem).bytes)
     let old ←Builtin.firstCells k n (.slice base n c)
     let new ←Builtin.firstCells k m x
     let rest:=Builtin.zeroCells (←zeroValue elem).cells (newCap-(n+m))
     Pure.pure (.slice (some (←newRow elem (old++new++rest))) (n+m) newCap):Sem Value) (CV E):=by
     refine U.choose.bind fun nc _=>(aZ _).u.bind fun i _=>(u_askRoom _).bind fun _ _=>(gq hs _ _).bind fun old ho=>(gq hx _ _).bind fun new hnew=>(iL (hz _ hd)).u.bind fun z hzz=>(jL ((ho.append hnew).append (ca_zeros hzz.cells _ kX))).bind fun a ha=>.pure (.slice ha)
    have mid:U P E (do
     if Builtin.nextslicecap (n+m) c*(←typeInfo elem).bytes>2^48 then(do
      if !(←Builtin.mayShare k n m base x) then mark .noRoom
      unsupported (.resourceLimit "append: a slice or a string whose bytes no memory bears"))
     let newCap ←choose (.appendCap (n+m) c elem)
     askRoom (newCap*(←typeInfo elem).bytes)
     let old ←Builtin.firstCells k n (.slice base n c)
     let new ←Builtin.firstCells k m x
     let rest:=Builtin.zeroCells (←zeroValue elem).cells (newCap-(n+m))
     Pure.pure (.slice (some (←newRow elem (old++new++rest))) (n+m) newCap):Sem Value) (CV E):=by
     refine(aZ _).u.bind fun i _=>?_
     dsimp only
     split
     ·refine U.bind (Q:=fun _=>True) (u_mayShare.bind fun b _=>?_) fun _ _=>fin;split
      ·exact(U.mark (.inl rfl)).bind fun _ _=>.unsupported
      ·exact .unsupported
     ·exact fin
    refine(aZ _).u.bind fun i _=>?_;split
    ·exact U.bind (Q:=fun _=>True) (ah hG _) fun _ _=>mid
    ·exact mid
  ·exact .stuck
 ·exact .stuck
end
end Cl
namespace Cl
open Conc Co
section
variable {P:Program}{E:Ev}{α β:Type}{Q:α→Prop}
theorem U.ite{c:Prop}[Decidable c]{s t:Sem α}(h1:c→U P E s Q)(h2:¬c→U P E t Q):U P E (if c then s else t) Q:=by
 split
 ·exact h1 ‹_›
 ·exact h2 ‹_›
theorem jb{x:Array Value}(h:CV E (.agg x)):CA E x:=by
 cases h with
 |agg h=>exact h
theorem cv_iface{t:TypeId}{v:Value}(h:CV E (.iface t v)):CV E v:=by
 cases h with
 |iface h=>exact h
theorem dX{ats:Array TypeId}{t:TypeId}{y:Value}{ptr:Option Addr}(hx:∀ a,ptr=some a→E.A a.block):U P E (Builtin.unsafeAdd_ ats t #[.pointer ptr,y]) (CV E):=by
 unfold Builtin.unsafeAdd_;refine(mP _).u.bind fun n _=>?_
 dsimp only
 have r2:U P E (match (generalizing:=false) ptr with
  |some a=>do
   match ←Go.shape a.block with
   |some (e,cells) =>
    let p ←Go.program
    match cellAtBytes p p.depth e (cells / p.cellsOf e) a.off n with
    |some off=>Pure.pure (.pointer (some {a with off}))
    |none=>unsupported (.unsafePointer "Add")
   |_=>unsupported (.unsafePointer "Add")
  |_=>unsupported (.unsafePointer "Add"):Sem Value) (CV E):=by
  cases ptr with
  |none=>exact .unsupported
  |some a =>
   refine(U.shape _).bind fun s _=>?_;split
   ·refine(U.program (Q:=fun _=>True) trivial).bind fun p _=>?_;split
    ·exact .pure (.ptr (hx a rfl))
    ·exact .unsupported
   ·exact .unsupported
 have r1:U P E (if n<0 then(unsupported (.unsafePointer "Add: a move by a count below zero"):Sem Unit) >>= fun _=>(match (generalizing:=false) ptr with
  |some a=>do
   match ←Go.shape a.block with
   |some (e,cells) =>
    let p ←Go.program
    match cellAtBytes p p.depth e (cells / p.cellsOf e) a.off n with
    |some off=>Pure.pure (.pointer (some {a with off}))
    |none=>unsupported (.unsafePointer "Add")
   |_=>unsupported (.unsafePointer "Add")
  |_=>unsupported (.unsafePointer "Add"):Sem Value) else(match (generalizing:=false) ptr with
  |some a=>do
   match ←Go.shape a.block with
   |some (e,cells) =>
    let p ←Go.program
    match cellAtBytes p p.depth e (cells / p.cellsOf e) a.off n with
    |some off=>Pure.pure (.pointer (some {a with off}))
    |none=>unsupported (.unsafePointer "Add")
   |_=>unsupported (.unsafePointer "Add")
  |_=>unsupported (.unsafePointer "Add"):Sem Value)) (CV E):=by
  split
  ·exact U.bind (Q:=fun _=>True) .unsupported fun _ _=>r2
  ·exact r2
 split
 ·cases ptr with
  |none=>exact U.bind (Q:=fun _=>True) .unsupported fun _ _=>r1
  |some a =>
   refine(u_viewAt (hx a rfl)).bind fun o ho=>?_;subst ho;exact .pure (.ptr (hx a rfl))
 ·exact r1
theorem ja{t:TypeId}{x y:Value}(hx:CV E x)(hy:CV E y):U P E (movedNumber t x y) (CV E):=by
 unfold movedNumber;refine(ae _).u.bind fun d hd=>?_
 have rest:U P E (match (generalizing:=false) x with
  |.pointer (some n)=>do
   let (a,lost) ←behindNumber n
   match ←Builtin.unsafeAdd_ #[] t #[.pointer (some a),y] with
   |.pointer (some b)=>asNumber b lost
   |v=>Pure.pure v
  |_=>Builtin.unsafeAdd_ #[] t #[x,y]:Sem Value) (CV E):=by
  cases hx with
  |ptr h =>
   refine(aA h).bind fun p hp=>(dX (ptr:=some p.1) fun a e=>by cases e;exact hp).bind fun v hv=>?_
   cases hv with
   |ptr h=>exact u_asNumber h
   |int=>exact .pure (.int _ _)
   |bool=>exact .pure (.bool _)
   |string=>exact .pure (.string _)
   |ptrN=>exact .pure .ptrN
   |sliceN=>exact .pure (.sliceN _ _)
   |slice h=>exact .pure (.slice h)
   |mapN=>exact .pure .mapN
   |map h=>exact .pure (.map h)
   |chanN=>exact .pure .chanN
   |chan h=>exact .pure (.chan h)
   |func h a b=>exact .pure (.func h a b)
   |yield h a b=>exact .pure (.yield h a b)
   |nilFunc=>exact .pure .nilFunc
   |iface h=>exact .pure (.iface h)
   |nilIface=>exact .pure .nilIface
   |agg h=>exact .pure (.agg h)
   |tuple h=>exact .pure (.tuple h)
  |ptrN=>exact dX fun a e=>by cases e
  |_=>exact .stuck
 dsimp only
 split
 ·exact U.bind (Q:=fun _=>True) .unsupported fun _ _=>rest
 ·exact rest
theorem u_movedPointer{t:TypeId}{x y:Value}(hx:CV E x):U P E (movedPointer t x y) (CV E):=by
 unfold movedPointer
 cases hx with
 |ptr h =>
  refine(u_numberAt h).bind fun o ho=>?_
  dsimp only
  split
  ·exact U.bind (Q:=fun _=>True) .unsupported fun _ _=>dX fun a e=>by cases e;exact h
  ·exact dX fun a e=>by cases e;exact h
 |ptrN=>exact dX fun a e=>by cases e
 |_=>exact .stuck
theorem eP:∀ (d:Nat) (t:TypeId) (x y:Value),CV E x→CV E y→E.A P.globals.size→U P E (Op.equalIn d t x y) fun _=>True
 |0,t,x,y,hx,hy,hG=>.unsupported
 |d+1,t,x,y,hx,hy,hG=>by
  unfold Op.equalIn;refine(ae _).u.bind fun de hde=>?_;clear hde;split
  all_goals first
   |exact .pure trivial
   |exact .stuck
   |exact .unsupported
   |(split<;>first|exact .pure trivial|exact .stuck)
   |skip
  ·rename_i a b;refine(aA (bW hx _ rfl)).bind fun p hp=>(aA (bW hy _ rfl)).bind fun q hq=>(U.program (Q:=fun _=>True) trivial).bind fun p _=>?_;split
   ·exact(gX hp).bind fun _ _=>(gX hq).bind fun _ _=>.pure trivial
   ·refine(aZ _).u.bind fun i _=>?_;split
    ·split
     ·exact .pure trivial
     ·exact .unsupported
    ·exact .unsupported
  ·refine(aT _).u.bind fun n _=>?_;split
   ·exact u_sameAddr (bW hx _ rfl) (bW hy _ rfl)
   ·split
    ·exact .pure trivial
    ·exact U.choose.bind fun _ _=>.pure trivial
  ·rename_i a b
   cases a with
   |none=>exact .pure trivial
   |some a =>
    cases b with
    |none=>exact .pure trivial
    |some b=>exact u_sameAddr (bW hx _ rfl) (bW hy _ rfl)
  ·rename_i tx vx ty vy;split
   ·exact .pure trivial
   ·refine(aZ _).u.bind fun i _=>?_;have hvx:=cv_iface hx;have hvy:=cv_iface hy;have rest:U P E (Op.equalIn d tx vx vy) fun _=>True:=eP d _ _ _ hvx hvy hG;split
    ·refine(U.program (Q:=fun _=>True) trivial).bind fun p _=>(U.program (Q:=fun _=>True) trivial).bind fun p2 _=>?_
     have r2:U P E (do
      runtimePanic (.error ("comparing uncomparable type "++(←typeStr tx))):Sem Bool) fun _=>True:=by
      refine U.bind (Q:=fun _=>True) ?_ fun _ _=>ah hG _;unfold typeStr;refine(aZ _).u.bind fun i _=>?_
      dsimp only
      split
      ·exact .unsupported
      ·exact .pure trivial
     split
     ·exact U.bind (Q:=fun _=>True) .unsupported fun _ _=>r2
     ·exact r2
    ·exact rest
  ·rename_i fields xs ys;have hxs:=jb hx;have hys:=jb hy;refine(U.program (Q:=fun _=>True) trivial).bind fun p _=>?_
   dsimp only
   split
   ·refine U.bind (Q:=fun _=>True) .unsupported fun _ _=>?_;refine(jd _ (fun _=>True) _ (fun f s _=>?_) _ trivial).bind fun s _=>?_
    ·split
     ·refine(eH hxs _).bind fun a ha=>(eH hys _).bind fun b hb=>(eP d _ _ _ ha hb hG).bind fun c _=>?_;split<;>exact .pure trivial
     ·exact .pure trivial
    ·split<;>exact .pure trivial
   ·refine(jd _ (fun _=>True) _ (fun f s _=>?_) _ trivial).bind fun s _=>?_
    ·split
     ·refine(eH hxs _).bind fun a ha=>(eH hys _).bind fun b hb=>(eP d _ _ _ ha hb hG).bind fun c _=>?_;split<;>exact .pure trivial
     ·exact .pure trivial
    ·split<;>exact .pure trivial
  ·rename_i len elem xs ys;have hxs:=jb hx;have hys:=jb hy;refine(aT _).u.bind fun n _=>?_;refine(u_forInR _ (fun _=>True) _ (fun i s _=>?_) _ trivial).bind fun s _=>?_
   ·refine(eH hxs _).bind fun a ha=>(eH hys _).bind fun b hb=>(eP d _ _ _ ha hb hG).bind fun c _=>?_;split<;>exact .pure trivial
   ·dsimp only
    split<;>exact .pure trivial
theorem iV:∀ (d:Nat) (t:TypeId) (x y:Value),CV E x→CV E y→U P E (Op.eqGuardIn d t x y) fun _=>True
 |0,t,x,y,hx,hy=>.unsupported
 |d+1,t,x,y,hx,hy=>by
  unfold Op.eqGuardIn;refine(ae _).u.bind fun de hde=>?_;clear hde;split
  ·exact .pure trivial
  ·rename_i fields xs ys;have hxs:=jb hx;have hys:=jb hy;refine(jd _ (fun _=>True) _ (fun f s _=>?_) _ trivial).bind fun s _=>?_
   ·split
    ·refine(eH hxs _).bind fun a ha=>(eH hys _).bind fun b hb=>(iV d _ _ _ ha hb).bind fun c _=>?_;split<;>exact .pure trivial
    ·exact .pure trivial
   ·dsimp only
    split<;>exact .pure trivial
  ·rename_i len elem xs ys;have hxs:=jb hx;have hys:=jb hy;refine(aT _).u.bind fun n _=>?_;refine(u_forInR _ (fun _=>True) _ (fun i s _=>?_) _ trivial).bind fun s _=>?_
   ·refine(eH hxs _).bind fun a ha=>(eH hys _).bind fun b hb=>(iV d _ _ _ ha hb).bind fun c _=>?_;split<;>exact .pure trivial
   ·dsimp only
    split<;>exact .pure trivial
  ·exact .pure trivial
theorem u_eqGuard{op:BinOp}{t:TypeId}{x y:Operand}{a b:Value}(ha:CV E a)(hb:CV E b):U P E (eqGuard op t x y a b) fun _=>True:=by
 unfold eqGuard
 have key:∀ c:Bool,U P E (if (!c)=true then Pure.pure () else match (generalizing:=false) a,b with
  |.nilIface,.nilIface =>
   if ((x matches .const _) || (y matches .const _))=true then Pure.pure () else do
    if ←Op.eqGuardIn Op.maxDepth t a b then unsupported (.noEntry "binop/eql: two nil values of an interface type with methods, neither of them the literal nil") else Pure.pure ()
  |.agg _,.agg _=>do
   let p ←program
   let q ←program
   if (!p.eqGuardType q.depth t)=true then Pure.pure () else do
    if ←Op.eqGuardIn Op.maxDepth t a b then unsupported (.noEntry "binop/eql: two nil values of an interface type with methods, in a part of a struct or an array") else Pure.pure ()
  |_,_=>Pure.pure ():Sem Unit) fun _=>True:=by
  intro c;split
  ·exact .pure trivial
  ·split
   ·refine U.ite (fun _=>.pure trivial) fun _=>(iV _ _ _ _ ha hb).bind fun c _=>?_;split
    ·exact .unsupported
    ·exact .pure trivial
   ·refine(U.program (Q:=fun _=>True) trivial).bind fun p _=>(U.program (Q:=fun _=>True) trivial).bind fun p2 _=>?_;split
    ·exact .pure trivial
    ·refine(iV _ _ _ _ ha hb).bind fun c _=>?_;split
     ·exact .unsupported
     ·exact .pure trivial
   ·exact .pure trivial
 exact key _
end
end Cl
namespace Cl
open Conc Co
section
variable {P:Program}{E:Ev}{α β:Type}{Q:α→Prop}
theorem u_shift(hG:E.A P.globals.size)(op:BinOp)(k:IntKind)(x:Int)(yk:IntKind)(y:Int):U P E (Op.shift op k x yk y) (CV E):=by
 unfold Op.shift;split
 ·exact ah hG _
 ·dsimp only
  split
  ·exact .pure (.int _ _)
  ·exact .pure (.int _ _)
  ·exact .stuck
theorem u_intArith(op:BinOp)(k:IntKind)(x y:Int):U P E (Op.intArith op k x y) (CV E):=by
 unfold Op.intArith
 split<;>first|exact .pure (.int _ _)|exact .stuck
theorem u_intDiv(hG:E.A P.globals.size)(op:BinOp)(k:IntKind)(x y:Int):U P E (Op.intDiv op k x y) (CV E):=by
 unfold Op.intDiv;split
 ·exact ah hG _
 ·split<;>first|exact .pure (.int _ _)|exact .stuck
theorem u_intBits(op:BinOp)(k:IntKind)(x y:Int):U P E (Op.intBits op k x y) (CV E):=by
 unfold Op.intBits
 dsimp only
 split<;>first|exact .pure (.int _ _)|exact .stuck
theorem u_intCmp(op:BinOp)(x y:Int):U P E (Op.intCmp op x y) (CV E):=by
 unfold Op.intCmp
 split<;>first|exact .pure (.bool _)|exact .stuck
theorem u_stringOp(op:BinOp)(x y:ByteArray):U P E (Op.stringOp op x y) (CV E):=by
 unfold Op.stringOp
 dsimp only
 split
 ·split
  ·exact .unsupported
  ·exact .pure (.string _)
 all_goals first|exact .pure (.bool _)|exact .stuck
theorem oL{a b:Addr}(ha:E.A a.block)(hb:E.A b.block):U P E (Op.twoPlaces a b) fun _=>True:=by
 unfold Op.twoPlaces;refine(U.program (Q:=fun _=>True) trivial).bind fun p _=>?_;have rest:U P E (do Pure.pure (←byteOf a,←byteOf b):Sem (Nat×Nat)) fun _=>True:=(gX ha).bind fun _ _=>(gX hb).bind fun _ _=>.pure trivial;exact U.ite (fun _=>U.bind (Q:=fun _=>True) .unsupported fun _ _=>rest) fun _=>rest
theorem u_addrSub{k:IntKind}{a b:Addr}(ha:E.A a.block)(hb:E.A b.block):U P E (Op.addrSub k a b) (CV E):=(oL ha hb).bind fun _ _=>.pure (.int _ _)
theorem jX{op:BinOp}{a b:Addr}(ha:E.A a.block)(hb:E.A b.block):U P E (Op.addrCmp op a b) (CV E):=by
 unfold Op.addrCmp;refine(oL ha hb).bind fun p _=>?_
 dsimp only
 split<;>first|exact .pure (.bool _)|exact .unsupported
theorem nO{k:IntKind}{a:Addr}{n:Int}(ha:E.A a.block):U P E (Op.addrMod k a n) (CV E):=by
 unfold Op.addrMod;refine(U.shape _).bind fun s _=>?_;split
 ·refine(aZ _).u.bind fun i _=>?_;have rest:U P E (do Pure.pure (Value.int k ((←byteOf a)%n.toNat:Nat)):Sem Value) (CV E):=(gX ha).bind fun _ _=>.pure (.int _ _);exact U.ite (fun _=>U.bind (Q:=fun _=>True) .unsupported fun _ _=>rest) fun _=>rest
 ·exact .unsupported
theorem u_binOp(hG:E.A P.globals.size){op:BinOp}{t:TypeId}{x y:Value}(hx:CV E x)(hy:CV E y):U P E (binOp op t x y) (CV E):=by
 unfold binOp;split
 ·exact u_shift hG _ _ _ _ _
 ·exact u_shift hG _ _ _ _ _
 ·refine U.ite (fun _=>.stuck) fun _=>?_;split
  all_goals first
   |exact u_intArith _ _ _ _
   |exact u_intDiv hG _ _ _ _
   |exact u_intBits _ _ _ _
   |exact u_intCmp _ _ _
 ·cases hx
 ·cases hx
 ·exact u_stringOp _ _ _
 ·exact(eP _ _ _ _ hx hy hG).bind fun _ _=>.pure (.bool _)
 ·exact(eP _ _ _ _ hx hy hG).bind fun _ _=>.pure (.bool _)
 ·refine(ae _).u.bind fun d _=>?_;exact U.ite (fun _=>u_movedPointer hx) fun _=>ja hx hy
 ·exact ja hy hx
 ·exact ja hx (.int _ _)
 ·exact(aA (bW hx _ rfl)).bind fun p hp=>(aA (bW hy _ rfl)).bind fun q hq=>u_addrSub hp hq
 ·exact(aA (bW hx _ rfl)).bind fun p hp=>(aA (bW hy _ rfl)).bind fun q hq=>jX hp hq
 ·exact(aA (bW hx _ rfl)).bind fun p hp=>(aA (bW hy _ rfl)).bind fun q hq=>jX hp hq
 ·exact(aA (bW hx _ rfl)).bind fun p hp=>(aA (bW hy _ rfl)).bind fun q hq=>jX hp hq
 ·exact(aA (bW hx _ rfl)).bind fun p hp=>(aA (bW hy _ rfl)).bind fun q hq=>jX hp hq
 ·exact(aA (bW hx _ rfl)).bind fun p hp=>nO hp
 ·exact(aA (bW hx _ rfl)).bind fun p hp=>nO hp
 ·exact(aA (bW hy _ rfl)).bind fun p hp=>nO hp
 ·exact .unsupported
 ·exact .unsupported
 ·exact .stuck
theorem u_unary{op:UnOp}{x:Value}(hx:CV E x):U P E (Op.unary op x) (CV E):=by
 unfold Op.unary;split
 ·exact u_intArith _ _ _ _
 ·exact u_intBits _ _ _ _
 ·cases hx
 ·cases hx
 ·exact .pure (.bool _)
 ·exact .unsupported
 ·exact .unsupported
 ·exact .stuck
theorem jI{x:Value}(hx:CV E x):U P E (Conv.bytesToString x) (CV E):=by
 unfold Conv.bytesToString;split
 ·exact .pure (.string _)
 ·refine(iO (gZ hx _ rfl) _).bind fun l _=>(jd _ (fun _=>True) _ (fun c s _=>?_) _ trivial).bind fun s _=>.pure (.string _);split
  ·exact .pure trivial
  ·exact .stuck
 ·exact .stuck
theorem jG{x:Value}(hx:CV E x):U P E (Conv.runesToString x) (CV E):=by
 unfold Conv.runesToString;split
 ·exact .pure (.string _)
 ·refine(iO (gZ hx _ rfl) _).bind fun l _=>(jd _ (fun _=>True) _ (fun c s _=>?_) _ trivial).bind fun s _=>.pure (.string _);split
  ·exact .pure trivial
  ·exact .stuck
 ·exact .stuck
theorem u_stringToBytes{e:TypeId}{s:ByteArray}:U P E (Conv.stringToBytes e s) (CV E):=by
 unfold Conv.stringToBytes;exact U.choose.bind fun c _=>(jL ((bytes_ca _).append (.replicate (.int _ _) _))).bind fun a ha=>(u_markStringish ha).bind fun _ _=>.pure (.slice ha)
def ConvOk(P:Program)(s d:TypeId):Prop :=
 (∃k,P.underlying d=some (.int k))∧(∃k,P.underlying s=some (.int k))∨(∃e,P.underlying s=some (.slice e))∧P.underlying d=some .string∨P.underlying s=some .string∧(∃e,P.underlying d=some (.slice e)∧P.underlying e=some (.int .u8))
theorem u_convert{s d:TypeId}{x:Value}(h:ConvOk P s d)(hx:CV E x):U P E (convert s d x) (CV E):=by
 unfold convert;refine(ae _).u.bind fun a ha=>(ae _).u.bind fun b hb=>?_;rcases h with⟨⟨k,h1⟩,⟨k2,h2⟩⟩|⟨⟨e,h1⟩,h2⟩|⟨h1,e,h2,h3⟩
 ·rw[h1]at hb;cases hb;rw[h2]at ha;cases ha;cases hx<;>first|exact .pure (.int _ _)|exact .unsupported
 ·rw[h2]at hb;cases hb;rw[h1]at ha;cases ha
  cases hx with
  |int=>exact .pure (.string _)
  |string=>exact .pure (.string _)
  |slice h =>
   refine(ae _).u.bind fun c _=>?_;split
   ·exact jI (.slice h)
   ·exact jG (.slice h)
   ·exact .stuck
  |sliceN =>
   refine(ae _).u.bind fun c _=>?_;split
   ·exact jI (.sliceN _ _)
   ·exact jG (.sliceN _ _)
   ·exact .stuck
  |_ =>
   refine(ae _).u.bind fun c _=>?_
   split<;>exact .stuck
 ·rw[h2]at hb;cases hb;rw[h1]at ha;cases ha
  cases hx with
  |string =>
   refine(ae _).u.bind fun c hc=>?_;rw[h3]at hc;cases hc;exact u_stringToBytes
  |_=>exact .unsupported
theorem u_typeStr(t:TypeId):U P E (typeStr t) fun _=>True:=by
 unfold typeStr;refine(aZ _).u.bind fun i _=>?_
 dsimp only
 split
 ·exact .unsupported
 ·exact .pure trivial
theorem iq(hG:E.A P.globals.size)(b:Bool):∀ (n:Nat) (t:TypeId) (v:Value),CV E v→U P E (Instr.checkKey b n t v) fun _=>True
 |0,t,v,h=>.unsupported
 |n+1,t,v,h=>by
  unfold Instr.checkKey;refine(ae _).u.bind fun d hd=>?_;clear hd;split
  ·rename_i t2 x;refine(aZ _).u.bind fun i _=>?_;have r1:=iq hG b n t2 x (cv_iface h)
   have r2:U P E (do
    runtimePanic (.error ("hash of unhashable type "++(←typeStr t2)))
    Instr.checkKey b n t2 x:Sem Unit) fun _=>True:=(u_typeStr _).bind fun _ _=>U.bind (Q:=fun _=>True) (ah hG _) fun _ _=>r1
   dsimp only
   refine U.ite (fun _=>?_) fun _=>r1;exact U.ite (fun _=>U.bind (Q:=fun _=>True) (ah hG _) fun _ _=>r2) fun _=>r2
  ·have hc:=jb h;refine U.map (Q:=fun _=>True) (u_forInR _ (fun _=>True) _ (fun i s _=>?_) _ trivial) fun _ _=>trivial;exact(aT _).u.bind fun k _=>(eH hc _).bind fun v hv=>(iq hG b n _ v hv).bind fun _ _=>.pure trivial
  ·have hc:=jb h;refine U.map (Q:=fun _=>True) (jd _ (fun _=>True) _ (fun f s _=>?_) _ trivial) fun _ _=>trivial;exact U.ite (fun _=>(eH hc _).bind fun v hv=>(iq hG b n _ v hv).bind fun _ _=>.pure trivial) fun _=>.pure trivial
  ·exact .pure trivial
  ·exact .stuck
  ·exact .stuck
  ·exact .stuck
  ·exact .pure trivial
end
end Cl
