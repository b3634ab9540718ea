/- Texts of this seat,put together: CoStep2,CoBar,ClStep. -/
import Derived.Test.YtlaipigilikmbaaGreatDoorMb4
import Derived.Conc.Own3
import Derived.Test.YtlaipigilikmbaaGreatDoorMb3
namespace Go.Proofs.YtlaipigilikmbaaGreatDoor
noncomputable section
set_option linter.unusedVariables false
set_option linter.unusedSimpArgs false
namespace Co
open Conc
variable {P:Program}{E:Env}{f:Fm}
structure Fs where
 fn:FuncId
 tmps:Array Value
 todo:List Item
 ret:Bool
def Fs.fr(x:Fs):Frame:=Co.fr x.fn x.tmps x.todo (if x.ret then .returning else .run)
def St(x:Fs)(xs:List Fs)(cs:List Frame):Goroutine:=G x.fr (xs.map Fs.fr++cs)
def OkS(P:Program)(E:Env)(x:Fs):Prop:=bT P E x.todo∧∃ fn,P.funcs[x.fn]? = some fn
def FsR(E:Env)(f:Fm)(x x':Fs):Prop:=x.fn=x'.fn∧x.todo=x'.todo∧x.ret=x'.ret∧AR E.ok f x.tmps x'.tmps
theorem FsR.mono{g:Fm}(h:f.le g){x x':Fs}(r:FsR E f x x'):FsR E g x x':=⟨r.1,r.2.1,r.2.2.1,r.2.2.2.mono h⟩
inductive SR (E:Env) (f:Fm):List Fs→List Fs→Prop
 |nil:SR E f [] []
 |cons {x x':Fs} {xs xs':List Fs} (h:FsR E f x x') (hs:SR E f xs xs'):SR E f (x::xs) (x'::xs')
theorem SR.mono{g:Fm}(h:f.le g){x x':List Fs}(r:SR E f x x'):SR E g x x':=by
 induction r with
 |nil=>exact .nil
 |cons a _ ih=>exact .cons (a.mono h) ih
structure Sound(P:Program)(E:Env):Prop where
 glob:E.G=P.globals.size
 body:∀ i,E.ok i=true→∃ fn c,P.funcs[i]? = some fn∧fn.body=some c∧OkCode P E c
 early:P.follows .staticDataAhead=true∧∀ g,P.stepOf g=none
theorem yielded_rel{tmps tmps':Array Value}(h:AR E.ok f tmps tmps')(ops:Array Oper):yielded ops tmps=yielded ops tmps':=by
 funext j
 unfold yielded
 cases hd:(ops[j]?).bind (·.dst) with
 |none=>rfl
 |some d =>
  simp only[Option.bind_some]
  cases ht:tmps[d]? with
  |none=>rw[h.get_none ht]
  |some u =>
   obtain⟨u',h1,h2⟩:=h.get ht;rw[h1]
   cases h2 with
   |wild h=>cases u' with
    |bool b=>exact absurd rfl (h.2.2 b)
    |_=>rfl
   |_=>rfl
theorem after_go{e es:Array Event}{s:GStep}{g:Goroutine}{w:World}(h:GStep.after e s=.go g w es):∃ es',s=.go g w es':=by
 cases s<;>simp[GStep.after]at h
 obtain⟨rfl,rfl,-⟩:=h;exact⟨_,rfl⟩
theorem fatal_dies{fr:Frame}{cs:List Frame}{m:String}{w w2:World}{g:Goroutine}{es:Array Event}(h:endFatal P fr cs none m w=.go g w2 es):g.dying≠none:=by
 unfold endFatal at h
 dsimp only at h
 split at h
 ·cases h;intro h;cases h
 ·cases h
 ·cases h
theorem apply_ok(hS:Sound P E){fr:Frame}{cs:List Frame}{s:Sem Next}{w w2:World}{g2:Goroutine}{es:Array Event}(h:stepG.apply P true fr cs none s w=.go g2 w2 es)
 (h1:g2.status=.running) (h2:g2.dying=none) (h3:∀ c,g2.frame.mode≠.panicking c):∃ n w3,s.run P w=.ok n w3:=by
 have hf:=Sem.runT_fst P s w #[];unfold stepG.apply at h;generalize hr:s.runT P w #[]=r at h hf;obtain⟨r,e⟩:=r
 dsimp only at hf
 rw[←hf]
 cases r with
 |ok n w3=>exact⟨n,w3,rfl⟩
 |halt x w3 =>
  exfalso
  have hraise:∀ (v:List PanicEntry),∃c,(fr.raise v).mode=.panicking c:=by
   intro v;unfold Frame.raise;split
   ·exact⟨_,rfl⟩
   ·exact⟨_,rfl⟩
  cases x with
  |panic v =>
   simp[GStep.after]at h;obtain⟨rfl,-,-⟩:=h;obtain⟨c,hc⟩:=hraise [{v,recovered:=false}];exact h3 c hc
  |goexit =>
   simp[GStep.after]at h;obtain⟨rfl,-,-⟩:=h;obtain⟨c,hc⟩:=hraise [goexitEntry];exact h3 c hc
  |blocked =>
   simp[GStep.after]at h;obtain⟨rfl,-,-⟩:=h;cases h1
  |waiting =>
   simp[GStep.after]at h;obtain⟨rfl,-,-⟩:=h;cases h1
  |exit c=>simp[GStep.after]at h
  |stuck s=>simp[GStep.after]at h
  |fatal m =>
   have h':GStep.after _ (endFatal P fr cs none m w3)=.go g2 w2 es:=h;obtain⟨es',h4⟩:=after_go h';exact fatal_dies h4 h2
  |throw m =>
   have h':GStep.after _ (endThrow fr m w3)=.go g2 w2 es:=h;obtain⟨es',h4⟩:=after_go h';cases h4;cases h2
  |unsupported u =>
   by_cases hu:∃ g,u=.initOrder g
   ·obtain⟨g,rfl⟩:=hu;simp[early,hS.early.1,hS.early.2 g,GStep.after]at h
   ·cases u<;>first|(exact hu ⟨_,rfl⟩)|(simp[GStep.after]at h)
theorem SRel.asAddr{v v':Value}(h:VR E.ok f v v'):SRel P E f (asAddr v) (asAddr v') (fun g a a'=>DR g a a'):=by
 cases h with
 |ptr h=>exact SRel.addr h
 |ptrN=>exact SRel.never (by unfold Go.asAddr;exact aK _)
 |_=>exact SRel.stuck
theorem SRel.list{α:Type}{s t:α→Sem Value}:∀ (l:List α) {f:Fm},(∀x∈l,SRel P E f (s x) (t x) (VV E))→SRel P E f (l.mapM s) (l.mapM t) (fun g a b=>AR E.ok g a.toArray b.toArray)
 |[],f,_=>SRel.pure fun g hg=>AR.empty
 |x::l,f,h=>by
  rw[List.mapM_cons,List.mapM_cons];refine(h x (by simp)).bind fun g hg v v' hv=>?_;refine(SRel.list l fun y hy=>(h y (by simp[hy])).up hg).bind fun g2 hg2 vs vs' hvs=>SRel.pure fun g3 hg3=>?_;have:=(AR.one (hv.mono (Fm.le_trans hg2 hg3))).append (hvs.mono hg3);simpa using this
theorem fO(fn:Func){tmps tmps':Array Value}(h:AR E.ok f tmps tmps'):SRel P E f (results fn tmps) (results fn tmps') (VV E):=by
 unfold results
 have hget:∀ (g:Fm),f.le g→∀ t:Nat,VR E.ok g (tmps.getD t undef) (tmps'.getD t undef):=by
  intro g hg t;rw[Array.getD_eq_getD_getElem?,Array.getD_eq_getD_getElem?]
  cases ht:tmps[t]? with
  |none=>rw[h.get_none ht];exact dm _ _
  |some u =>
   obtain⟨u',h1,h2⟩:=h.get ht;rw[h1];exact h2.mono hg
 rw[Array.mapM_eq_mapM_toList,Array.mapM_eq_mapM_toList];refine SRel.bind (R:=fun g a b=>AR E.ok g a b) ?_ fun g hg vs vs' hv=>?_
 ·refine SRel.bind (SRel.list (s:=fun r=>match r with|.tmp t=>Pure.pure (tmps.getD t undef)|.cell a t=>do loadVar t (←Go.asAddr (tmps.getD a undef))) (t:=fun r=>match r with|.tmp t=>Pure.pure (tmps'.getD t undef)|.cell a t=>do loadVar t (←Go.asAddr (tmps'.getD a undef))) fn.results.toList fun r hr=>?_) fun g hg a b hab=>SRel.pure fun g2 hg2=>hab.mono hg2
  cases r with
  |tmp t=>exact SRel.pure fun g hg=>hget g hg t
  |cell a t=>exact(SRel.asAddr (hget f f.le_refl a)).bind fun g hg b b' hb=>SRel.loadVar hb
 ·refine SRel.pure fun g2 hg2=>?_;have hv:=hv.mono hg2;by_cases h1:vs.size=1
  ·have h1':vs'.size=1:=by rw[←hv.size];exact h1
   rw[dif_pos h1,dif_pos h1'];exact hv.at_ 0 _ _ (Array.getElem?_eq_getElem (by omega)) (Array.getElem?_eq_getElem (by omega))
  ·have h1':¬ vs'.size=1:=by rw[←hv.size];exact h1
   rw[dif_neg h1,dif_neg h1'];exact hv.tuple
def mkr:Item:=.code (.refuse "")
def tk:Option (List Item)→List Item→List Fs→List Item
 |some K,k,[]=>k.dropLast++K
 |_,k,_=>k
def apK(K:Option (List Item)):List Fs→List Fs
 |[]=>[]
 |x::xs=>{x with todo:=tk K x.todo xs}::apK K xs
def StK(K:Option (List Item))(x:Fs)(xs:List Fs)(cs:List Frame):Goroutine:=St {x with todo:=tk K x.todo xs} (apK K xs) cs
def bot:List Fs→List Item
 |[]=>[]
 |[x]=>x.todo
 |_::y::l=>bot (y::l)
def di(l:List Fs):Prop:=∃ p,bot l=p++[mkr]∧(p≠[]∨l.length≤1)
theorem tk_none(k:List Item)(xs:List Fs):tk none k xs=k:=by cases xs<;>rfl
theorem jD(K:Option (List Item))(k:List Item)(x:Fs)(xs:List Fs):tk K k (x::xs)=k:=by cases K<;>rfl
theorem iT(K:Option (List Item))(it:Item)(k:List Item)(xs:List Fs)(h:K=none∨xs≠[]∨k≠[]):tk K (it::k) xs=it::tk K k xs:=by
 cases xs with
 |cons x xs=>rw[jD,jD]
 |nil =>
  cases K with
  |none=>rfl
  |some K =>
   have hk:k≠[]:=by rcases h with h|h|h;cases h;exact absurd rfl h;exact h
   show(it::k).dropLast++K=it::(k.dropLast++K);rw[List.dropLast_cons_of_ne_nil hk];rfl
theorem apK_none:∀ xs:List Fs,apK none xs=xs
 |[]=>rfl
 |x::xs=>by rw[apK,tk_none,apK_none xs]
theorem stK_none(x:Fs)(xs:List Fs)(cs:List Frame):StK none x xs cs=St x xs cs:=by rw[StK,tk_none,apK_none]
theorem jo(K:Option (List Item))(fn:FuncId)(t:Array Value)(k:List Item)(r:Bool)(xs:List Fs)(cs:List Frame):StK K ⟨fn,t,k,r⟩ xs cs=G (fr fn t (tk K k xs) (if r then .returning else .run)) ((apK K xs).map Fs.fr++cs):=rfl
theorem di.rest{fn:FuncId}{t:Array Value}{it:Item}{k:List Item}{r:Bool}{xs:List Fs}(h:di (⟨fn,t,it::k,r⟩::xs))(hi:it≠mkr):xs≠[]∨k≠[]:=by
 cases xs with
 |cons x xs=>exact .inl (fun h=>by cases h)
 |nil =>
  right;rintro rfl;obtain⟨p,hp,-⟩:=h;have:[it]=p++[mkr]:=hp
  cases p with
  |nil=>simp at this;exact hi this
  |cons a p=>simp at this
theorem di.top{x y:Fs}{xs:List Fs}(h:di (x::xs))(hy:xs=[]→∃ p,y.todo=p++[mkr]):di (y::xs):=by
 cases xs with
 |nil =>
  obtain⟨p,hp⟩:=hy rfl;exact⟨p,hp,.inr (Nat.le_refl _)⟩
 |cons z zs=>exact h
theorem di.end_{x:Fs}(h:di [x]):∃ p,x.todo=p++[mkr]:=let ⟨p,hp,_⟩:=h;⟨p,hp⟩
theorem jV{it:Item}{k p:List Item}(h:it::k=p++[mkr])(hi:it≠mkr):∃ q,k=q++[mkr]:=by
 cases p with
 |nil=>simp at h;exact absurd h.1 hi
 |cons a p=>simp at h;exact⟨p,h.2⟩
def LocG(P:Program)(main:Bool)(g:Goroutine)(w:World)(g2:Goroutine)(w2:World):Prop :=
 ∃n,w2.drawn=w.drawn+n∧w2.tape=w.tape∧∀ τ d,(∀i,i<n→τ (d+i)=w.tape (w.drawn+i))→∃ es,stepG P main g (re w τ d)=.go g2 (re w2 τ (d+n)) es
def Same(P:Program)(E:Env)(main:Bool)(cs cs':List Frame)(f:Fm)(x':Fs)(xs':List Fs)(w':World)(g2:Goroutine)(w2:World):Prop :=
 ∃h y ys y' ys' w2' es',g2=St y ys cs∧SR E h (y::ys) (y'::ys')∧(∀z∈y::ys,OkS P E z)∧(di (x'::xs')→di (y'::ys'))∧(∀K,K=none∨di (x'::xs')→stepG P main (StK K x' xs' cs') w'=.go (StK K y' ys' cs') w2' es')∧WR E h w2 w2'∧Foot E.ro f h w' w2'∧∀ e∈es',EvS E.ro h e
theorem mute_mode{fn:FuncId}{tmps:Array Value}{k k':List Item}{m:FrameMode}(h:Mute P E fn tmps k k' m):∃ r:Bool,m=if r then .returning else .run:=by
 cases h<;>first|exact⟨true,rfl⟩|exact⟨false,rfl⟩
theorem LocG.still{main:Bool}{g g2:Goroutine}{w w2:World}(hd:w2.drawn=w.drawn)(ht:w2.tape=w.tape)(h:∀ τ d,∃es,stepG P main g (re w τ d)=.go g2 (re w2 τ d) es):LocG P main g w g2 w2:=⟨0,hd,ht,fun τ d _=>h τ d⟩
theorem SR.inv{x x':Fs}{xs xs':List Fs}(h:SR E f (x::xs) (x'::xs')):FsR E f x x'∧SR E f xs xs':=by
 cases h with
 |cons a b=>exact⟨a,b⟩
theorem je{main:Bool}{fn:FuncId}{tmps:Array Value}{id:Nat}{ops:Array Oper}{k:List Item}{cs:List Frame}{w:World} :
 stepG P main (G (fr fn tmps (.code (.region id ops true)::k) .run) cs) w=.go (G (fr fn tmps (.inRegion ops (Region.schedule (P.follows .mixedOrders) ops (w.tape w.drawn (.order fn id)))::k) .run) cs) {w with drawn:=w.drawn+1} #[]:=by
 simp[G,stepG,stepG.exec,fr,choose,Sem.run,Question.forced,Question.cut]
theorem fG{tmps tmps':Array Value}{v v':Value}(h:AR E.ok f tmps tmps')(hv:VR E.ok f v v')(dst:Option Tmp):AR E.ok f (Act.put ⟨tmps,[]⟩ dst v).tmps (Act.put ⟨tmps',[]⟩ dst v').tmps:=by
 cases dst with
 |none=>exact h
 |some d=>exact h.set d hv
theorem put_defers{tmps:Array Value}{v:Value}(dst:Option Tmp):(Act.put ⟨tmps,[]⟩ dst v).defers=[]:=by
 cases dst<;>rfl
theorem fr_at(fn:FuncId)(a:Act)(todo:List Item)(h:a.defers=[]):(base fn).at a todo=fr fn a.tmps todo .run:=by
 obtain⟨t,d⟩:=a
 dsimp only at h
 subst h;rfl
theorem fJ{main:Bool}{fn:FuncId}{tmps:Array Value}{ops:Array Oper}{i:Nat}{rest:List Nat}{k:List Item}{cs:List Frame}{w:World}(hn:((ops[i]?).map (Region.wanted · (yielded ops tmps))).getD false=false) :
 stepG P main (G (fr fn tmps (.inRegion ops (i::rest)::k) .run) cs) w=.go (G (fr fn (Act.put ⟨tmps,[]⟩ ((ops[i]?).bind (·.dst)) undef).tmps (.inRegion ops rest::k) .run) cs) w #[]:=by
 cases h:(ops[i]?).bind (·.dst)<;>simp[G,stepG,stepG.exec,fr,hn,Frame.finish,Act.put,h]
theorem mX{fn:FuncId}{new:Array Event}{g:Fm}(h:∀ e∈new,EvS E.ro g e):∀ e∈seen P fn new,EvS E.ro g e:=fun e he=>h e (mem_seen he)
theorem oper_rel(hS:Sound P E){main main':Bool}{fn:FuncId}{tmps tmps':Array Value}{ops:Array Oper}{i:Nat}{rest:List Nat}{k:List Item}{xs xs':List Fs}{cs cs':List Frame}{w w' w2:World}{g2:Goroutine}{es:Array Event}
 (ha:AR E.ok f tmps tmps') (hk:bT P E (.inRegion ops (i::rest)::k)) (hfn:∃ F,P.funcs[fn]? = some F) (hs:SR E f xs xs') (hxs:∀ z∈xs,OkS P E z) (hw:WR E f w w')
 (h:stepG P main (G (fr fn tmps (.inRegion ops (i::rest)::k) .run) (xs.map Fs.fr++cs)) w=.go g2 w2 es) (h1:g2.status=.running) (h2:g2.dying=none) (h3:∀ c,g2.frame.mode≠.panicking c) :
 Same P E main' cs cs' f ⟨fn,tmps',.inRegion ops (i::rest)::k,false⟩ xs' w' g2 w2∧LocG P main (G (fr fn tmps (.inRegion ops (i::rest)::k) .run) (xs.map Fs.fr++cs)) w g2 w2:=by
 have hk':bT P E (.inRegion ops rest::k):=.cons hk.head hk.tail;have hy:=yielded_rel ha ops
 have hout:∀ (g:Fm) (t t':Array Value) (w3 w3':World) (es':Array Event),f.le g→AR E.ok g t t'→WR E g w3 w3'→Foot E.ro f g w' w3'→(∀e∈es',EvS E.ro g e) →
  (∀k cs,stepG P main' (G (fr fn tmps' (.inRegion ops (i::rest)::k) .run) cs) w'=.go (G (fr fn t' (.inRegion ops rest::k) .run) cs) w3' es') →
  Same P E main' cs cs' f ⟨fn,tmps',.inRegion ops (i::rest)::k,false⟩ xs' w' (G (fr fn t (.inRegion ops rest::k) .run) (xs.map Fs.fr++cs)) w3:=by
  intro g t t' w3 w3' es' hg ht hw3 hft hev hst;refine⟨g,⟨fn,t,.inRegion ops rest::k,false⟩,xs,⟨fn,t',.inRegion ops rest::k,false⟩,xs',w3',es',rfl,.cons ⟨rfl,rfl,rfl,ht⟩ (hs.mono hg),fun z hz=>?_,fun hb=>?_,fun K hK=>?_,hw3,hft,hev⟩
  ·rcases List.mem_cons.1 hz with rfl|hz
   ·exact⟨hk',hfn⟩
   ·exact hxs z hz
  ·refine hb.top fun e=>?_;subst e;obtain⟨p,hp⟩:=hb.end_;obtain⟨q,rfl⟩:=jV hp (fun h=>by cases h);exact⟨.inRegion ops rest::q,rfl⟩
  ·have hc:K=none∨xs'≠[]∨k≠[]:=hK.imp (fun h=>h) fun hb=>hb.rest (fun h=>by cases h);rw[jo,jo,iT K _ _ _ hc,iT K _ _ _ hc];exact hst _ _
 by_cases hn:((ops[i]?).map (Region.wanted · (yielded ops tmps))).getD false=false
 ·rw[fJ hn]at h;cases h;exact⟨hout f _ _ _ _ #[] f.le_refl (fG ha (dm _ _) _) hw .refl (fun e he=>by simp at he) fun k cs=>fJ (by rw[←hy];exact hn),.still rfl rfl fun τ d=>⟨#[],fJ hn⟩⟩
 ·obtain⟨o,ho,hwt⟩:∃ o,ops[i]? = some o∧Region.wanted o (yielded ops tmps)=true:=by
   cases ho:ops[i]? with
   |none=>rw[ho]at hn;exact absurd rfl hn
   |some o =>
    rw[ho]at hn;exact⟨o,rfl,by simpa using hn⟩
  have hwt':Region.wanted o (yielded ops tmps')=true:=by rw[←hy];exact hwt
  have hop:OkOp P E o.op:=hk.head o (Array.mem_of_getElem? ho);have hap:=h;have e0:∀ t:Array Value,fr fn t (.inRegion ops (i::rest)::k) .run=(base fn).at ⟨t,[]⟩ (.inRegion ops (i::rest)::k):=fun _=>rfl;rw[e0,stepG_oper ho hwt]at hap;obtain⟨n,w3,hrun⟩:=apply_ok hS hap h1 h2 h3;have hrel:=op_rel (f:=f) hS.glob (fr:=(base fn).at ⟨tmps,[]⟩ (.inRegion ops (i::rest)::k)) (fr':=(base fn).at ⟨tmps',[]⟩ (.inRegion ops (i::rest)::k)) ha hop;rw[Frame.eval_at',Frame.eval_at']at hrel;obtain⟨g,b,w2',new,r1,r2,r3,r4,r5,r6⟩:=hrel f f.le_refl w w' hw n w3 hrun
  have hrun':(execOp (Act.eval ⟨tmps',[]⟩) o).run P w'=.ok b w2':=by rw[←Sem.runT_fst P _ w' #[],r1]
  have hev:listed P fn ⟨tmps',[]⟩ o w'=seen P fn new:=by
   unfold listed Sem.events;rw[r1,Array.empty_append]
  obtain⟨m,q1,q2,q3⟩:=r6
  have hkind:(base fn).kind≠.early:=by simp[base]
  cases r3 with
  |@value v v' hv =>
   have hl:=stepG_value (P:=P) (main:=main) (b:=base fn) (a:=⟨tmps,[]⟩) (k:=k) (cs:=xs.map Fs.fr++cs) (rest:=rest) ho hwt hkind hrun;rw[e0,hl]at h;cases h;have hc:∀ k cs,_:=fun k cs=>stepG_value (P:=P) (main:=main') (b:=base fn) (a:=⟨tmps',[]⟩) (k:=k) (cs:=cs) (rest:=rest) ho hwt' hkind hrun';rw[fr_at _ _ _ (put_defers _)];refine⟨hout g _ _ _ _ (seen P fn new) r4.le (fG (ha.mono r4.le) hv _) r2 r4 (mX r5) fun k cs=>?_,m,q1,q2,fun τ d ht=>?_⟩
   ·have:=hc k cs;rw[fr_at _ _ _ (put_defers _),show(base fn).fn=fn from rfl,hev]at this;exact this
   have:=stepG_value (P:=P) (main:=main) (b:=base fn) (a:=⟨tmps,[]⟩) (k:=k) (cs:=xs.map Fs.fr++cs) (rest:=rest) ho hwt hkind (q3 τ d ht);rw[fr_at _ _ _ (put_defers _)]at this;exact⟨_,this⟩
  |skip =>
   have hl:=stepG_none (P:=P) (main:=main) (b:=base fn) (a:=⟨tmps,[]⟩) (k:=k) (cs:=xs.map Fs.fr++cs) (rest:=rest) ho hwt hkind hrun;rw[e0,hl]at h;cases h;have hc:∀ k cs,_:=fun k cs=>stepG_none (P:=P) (main:=main') (b:=base fn) (a:=⟨tmps',[]⟩) (k:=k) (cs:=cs) (rest:=rest) ho hwt' hkind hrun';rw[fr_at _ _ _ (put_defers _)];refine⟨hout g _ _ _ _ (seen P fn new) r4.le (fG (ha.mono r4.le) (dm _ _) _) r2 r4 (mX r5) fun k cs=>?_,m,q1,q2,fun τ d ht=>?_⟩
   ·have:=hc k cs;rw[fr_at _ _ _ (put_defers _),show(base fn).fn=fn from rfl,hev]at this;exact this
   have:=stepG_none (P:=P) (main:=main) (b:=base fn) (a:=⟨tmps,[]⟩) (k:=k) (cs:=xs.map Fs.fr++cs) (rest:=rest) ho hwt hkind (q3 τ d ht);rw[fr_at _ _ _ (put_defers _)]at this;exact⟨_,this⟩
  |@enter j args args' hj hargs =>
   obtain⟨F,c,hF,hbody,hc0⟩:=hS.body j hj;have hl:=stepG_enter (P:=P) (main:=main) (b:=base fn) (a:=⟨tmps,[]⟩) (k:=k) (cs:=xs.map Fs.fr++cs) (rest:=rest) ho hwt hkind hrun;rw[e0,hl]at h;cases h;have hc:∀ k cs,_:=fun k cs=>stepG_enter (P:=P) (main:=main') (b:=base fn) (a:=⟨tmps',[]⟩) (k:=k) (cs:=cs) (rest:=rest) ho hwt' hkind hrun';rw[enter_at args hF hbody];have hsz:args'.size=args.size:=hargs.size.symm
   refine⟨⟨g,⟨j,args++Array.replicate (F.ntmps-args.size) undef,[.code c],false⟩,⟨fn,tmps,.inRegion ops (i::rest)::k,false⟩::xs,⟨j,args'++Array.replicate (F.ntmps-args'.size) undef,[.code c],false⟩,⟨fn,tmps',.inRegion ops (i::rest)::k,false⟩::xs',w2',seen P fn new,rfl,
    .cons ⟨rfl,rfl,rfl,by rw[hsz];exact hargs.append (AR.flat fun u hu=>by obtain⟨-,rfl⟩:=Array.mem_replicate.1 hu;exact dm)⟩ (.cons ⟨rfl,rfl,rfl,ha.mono r4.le⟩ (hs.mono r4.le)),fun z hz=>?_,fun hb=>?_,fun K hK=>?_,r2,r4,mX r5⟩,m,q1,q2,fun τ d ht=>?_⟩
   ·rcases List.mem_cons.1 hz with rfl|hz
    ·exact⟨.cons hc0 fun x hx=>by simp at hx,F,hF⟩
    ·rcases List.mem_cons.1 hz with rfl|hz
     ·exact⟨hk,hfn⟩
     ·exact hxs z hz
   ·obtain⟨p,hp,hq⟩:=hb;refine⟨p,hp,.inl ?_⟩;rintro rfl
    cases xs' with
    |nil =>
     have:Item.inRegion ops (i::rest)::k=[]++[mkr]:=hp;cases this
    |cons z zs =>
     rcases hq with hq|hq
     ·exact hq rfl
     ·simp at hq
   ·have hcd:K=none∨xs'≠[]∨k≠[]:=hK.imp (fun h=>h) fun hb=>hb.rest (fun h=>by cases h);have:=hc (tk K k xs') ((apK K xs').map Fs.fr++cs');rw[enter_at args' hF hbody,show(base fn).fn=fn from rfl,hev]at this;rw[jo,jo,iT K _ _ _ hcd,jD];show _=GStep.go (G (fr j (args'++Array.replicate (F.ntmps-args'.size) undef) [.code c] .run) (fr fn tmps' (tk K (.inRegion ops (i::rest)::k) xs') .run::((apK K xs').map Fs.fr++cs'))) _ _;rw[iT K _ _ _ hcd];exact this
   ·have:=stepG_enter (P:=P) (main:=main) (b:=base fn) (a:=⟨tmps,[]⟩) (k:=k) (cs:=xs.map Fs.fr++cs) (rest:=rest) ho hwt hkind (q3 τ d ht);rw[enter_at args hF hbody]at this;exact⟨_,this⟩
theorem WR.drew{w w':World}(h:WR E f w w'):WR E f {w with drawn:=w.drawn+1} {w' with drawn:=w'.drawn+1} :=
 ⟨h.tape,by show w'.drawn+1=w.drawn+1;rw[h.drawn],h.obj,h.inj,h.ice,h.fresh,h.glob,h.gl,h.big⟩
theorem dW{y:Fs}{v:Value}{ops:Array Oper}{i:Nat}{rest:List Nat}{k:List Item}(h:y.todo=.inRegion ops (i::rest)::k):y.fr.finish v=Fs.fr ⟨y.fn,(Act.put ⟨y.tmps,[]⟩ ((ops[i]?).bind (·.dst)) v).tmps,.inRegion ops rest::k,y.ret⟩:=by
 obtain⟨fn,tmps,todo,ret⟩:=y
 dsimp only at h
 subst h
 cases h:(ops[i]?).bind (·.dst)<;>simp[Fs.fr,fr,Frame.finish,h,Act.put]
theorem jk{y:Fs}{v:Value}(hk:bT P E y.todo)(h:∀ ops i rest k,y.todo≠.inRegion ops (i::rest)::k):y.fr.finish v=y.fr:=by
 obtain⟨fn,tmps,todo,ret⟩:=y
 cases todo with
 |nil=>rfl
 |cons it k =>
  cases it with
  |inRegion ops l =>
   cases l with
   |nil=>rfl
   |cons i rest=>exact absurd rfl (h ops i rest k)
  |inRangeFunc l=>exact hk.head.elim
  |beginRound=>exact hk.head.elim
  |call d w r s=>exact hk.head.elim
  |extern r a=>exact hk.head.elim
  |_=>rfl
theorem finish_rel{y y':Fs}{v v':Value}(hr:FsR E f y y')(hk:OkS P E y)(hv:VR E.ok f v v') :
 ∃z z',y.fr.finish v=z.fr∧FsR E f z z'∧OkS P E z∧(∀K ys,K=none∨ys≠[]∨(∃p,y'.todo=p++[mkr]∧p≠[])→(Fs.fr {y' with todo:=tk K y'.todo ys}).finish v'=Fs.fr {z' with todo:=tk K z'.todo ys})∧((∃p,y'.todo=p++[mkr]∧p≠[])→∃ p,z'.todo=p++[mkr]):=by
 obtain⟨h1,h2,h3,h4⟩:=hr;by_cases h:∃ ops i rest k,y.todo=.inRegion ops (i::rest)::k
 ·obtain⟨ops,i,rest,k,e⟩:=h
  have hend:(∃p,y'.todo=p++[mkr]∧p≠[])→∃ q,k=q++[mkr]:=fun⟨p,hp,_⟩=>by
   rw[←h2,e]at hp;exact jV hp (fun h=>by cases h)
  refine⟨_,⟨y'.fn,(Act.put ⟨y'.tmps,[]⟩ ((ops[i]?).bind (·.dst)) v').tmps,.inRegion ops rest::k,y'.ret⟩,dW e,⟨h1,rfl,h3,fG h4 hv _⟩,?_,fun K ys hc=>?_,fun hp=>?_⟩
  ·have:=hk.1;rw[e]at this;exact⟨.cons this.head this.tail,hk.2⟩
  ·have hc':K=none∨ys≠[]∨k≠[]:=by
    rcases hc with hc|hc|hc
    ·exact .inl hc
    ·exact .inr (.inl hc)
    ·obtain⟨q,rfl⟩:=hend hc;exact .inr (.inr (by simp))
   rw[dW (y:={y' with todo:=tk K y'.todo ys}) (ops:=ops) (i:=i) (rest:=rest) (k:=tk K k ys) (by rw[←h2,e,iT K _ _ _ hc'])];rw[iT K _ _ _ hc']
  ·obtain⟨q,rfl⟩:=hend hp;exact⟨.inRegion ops rest::q,rfl⟩
 ·have hn:∀ ops i rest k,y.todo≠.inRegion ops (i::rest)::k:=fun ops i rest k e=>h ⟨ops,i,rest,k,e⟩;refine⟨y,y',jk hk.1 hn,⟨h1,h2,h3,h4⟩,hk,fun K ys hK=>?_,fun⟨p,hp,_⟩=>⟨p,hp⟩⟩;have hk1:=hk.1;rw[h2]at hk1 hn
  have key:∀ (k:List Item),(∃it l,k=it::l∧∃ l',y'.todo=it::l')∨k=y'.todo→(Fs.fr {y' with todo:=k}).finish v'=Fs.fr {y' with todo:=k}:=by
   intro k hk';obtain⟨fn,tmps,todo,ret⟩:=y'
   dsimp only at hk1 hn hk'⊢
   rcases hk' with⟨it,l,rfl,l',rfl⟩|rfl
   ·cases it with
    |inRegion ops l =>
     cases l with
     |nil=>rfl
     |cons i rest=>exact absurd rfl (hn ops i rest l')
    |inRangeFunc l=>exact hk1.head.elim
    |beginRound=>exact hk1.head.elim
    |call d w r s=>exact hk1.head.elim
    |extern r a=>exact hk1.head.elim
    |_=>rfl
   ·exact jk (y:=⟨fn,tmps,k,ret⟩) hk1 hn
  cases ys with
  |cons u us=>rw[jD];exact key _ (.inr rfl)
  |nil =>
   cases K with
   |none=>exact key _ (.inr rfl)
   |some K =>
    rcases hK with hK|hK|⟨p,hp,hne⟩
    ·cases hK
    ·exact absurd rfl hK
    ·cases p with
     |nil=>exact absurd rfl hne
     |cons it p =>
      refine key _ (.inl ⟨it,p++K,?_,p++[mkr],hp⟩);show y'.todo.dropLast++K=_;rw[hp,List.dropLast_concat];rfl
theorem leave_step{main:Bool}{fn:FuncId}{tmps:Array Value}{todo:List Item}{F:Func}{c:Frame}{cs:List Frame}{v:Value}{w w2:World}{es:Array Event}(hF:P.funcs[fn]? = some F)(hr:(results F tmps).runT P w #[]=(.ok v w2,es)) :
 stepG P main (G (fr fn tmps todo .returning) (c::cs)) w=.go (G (c.finish v) cs) w2 (seen P fn es):=by
 simp only[G,stepG,unwind,fr,hF,hr,doReturn,GStep.after,Array.append_empty]
theorem leave_ok{main:Bool}{fn:FuncId}{tmps:Array Value}{todo:List Item}{F:Func}{cs:List Frame}{w w2:World}{g2:Goroutine}{es:Array Event}(hF:P.funcs[fn]? = some F)
 (h:stepG P main (G (fr fn tmps todo .returning) cs) w=.go g2 w2 es):∃ v w3,(results F tmps).run P w=.ok v w3:=by
 have hf:=Sem.runT_fst P (results F tmps) w #[];simp only[G,stepG,unwind,fr,hF]at h;generalize hr:(results F tmps).runT P w #[]=r at h hf;obtain⟨r,e⟩:=r
 dsimp only at hf h
 rw[←hf]
 cases r with
 |ok v w3=>exact⟨v,w3,rfl⟩
 |halt x w3=>exfalso;cases x<;>simp[GStep.after]at h
theorem mg{id:Nat}(K:List Item):∀ (p:List Item) {k':List Item},exitTo id (p++[mkr])=some k'→∃ q,k'=q++[mkr]∧exitTo id (p++K)=some (q++K)
 |[],k',h=>by cases h
 |it::p,k',h=>by
  cases it with
  |inBlock id' =>
   simp only[exitTo,List.cons_append]at h⊢;split at h
   ·rename_i e;cases h;rw[if_pos e];exact⟨p,rfl,rfl⟩
   ·rename_i e;rw[if_neg e];exact mg K p h
  |_=>simp only[exitTo,List.cons_append]at h⊢;exact mg K p h
theorem mute_end{fn:FuncId}{tmps:Array Value}{k k':List Item}{m:FrameMode}(h:Mute P E fn tmps k k' m)(hk:∃ p,k=p++[mkr]):∃ p,k'=p++[mkr]:=by
 obtain⟨p,hp⟩:=hk;have ne:∀ {it:Item} {k:List Item},it::k=p++[mkr]→it≠mkr→∃ q,k=q++[mkr]:=fun h1 h2=>jV h1 h2
 cases h with
 |nil=>exact⟨p,hp⟩
 |ret=>exact⟨p,hp⟩
 |skip=>exact ne hp (fun h=>by cases h)
 |label=>exact ne hp (fun h=>by cases h)
 |inBlock=>exact ne hp (fun h=>by cases h)
 |seq=>obtain⟨q,rfl⟩:=ne hp (fun h=>by cases h);exact⟨_::_::q,rfl⟩
 |cond=>obtain⟨q,rfl⟩:=ne hp (fun h=>by cases h);exact⟨_::q,rfl⟩
 |block=>obtain⟨q,rfl⟩:=ne hp (fun h=>by cases h);exact⟨_::_::q,rfl⟩
 |loop=>obtain⟨q,rfl⟩:=ne hp (fun h=>by cases h);exact⟨_::_::q,rfl⟩
 |inLoop=>obtain⟨q,rfl⟩:=ne hp (fun h=>by cases h);exact⟨_::_::q,rfl⟩
 |exit he =>
  obtain⟨q,rfl⟩:=ne hp (fun h=>by cases h);obtain⟨r,h1,-⟩:=mg [] q he;exact⟨r,h1⟩
 |region=>obtain⟨q,rfl⟩:=ne hp (fun h=>by cases h);exact⟨_::q,rfl⟩
 |done=>exact ne hp (fun h=>by cases h)
theorem mute_tk{fn:FuncId}{tmps:Array Value}{k k':List Item}{m:FrameMode}(K:Option (List Item))(xs:List Fs)(h:Mute P E fn tmps k k' m)(hk:K=none∨xs≠[]∨∃p,k=p++[mkr]):Mute P E fn tmps (tk K k xs) (tk K k' xs) m:=by
 cases xs with
 |cons z zs=>rw[jD,jD];exact h
 |nil =>
  cases K with
  |none=>exact h
  |some K =>
   have hm:∃ p,k=p++[mkr]:=by
    rcases hk with hk|hk|hk
    ·cases hk
    ·exact absurd rfl hk
    ·exact hk
   obtain⟨p,rfl⟩:=hm;show Mute P E fn tmps ((p++[mkr]).dropLast++K) (k'.dropLast++K) m;rw[List.dropLast_concat];generalize hp:p++[mkr]=k at h
   have ne:∀ {it:Item} {k:List Item},p++[mkr]=it::k→it≠mkr→∃ q,k=q++[mkr]∧p=it::q:=fun h1 h2=>by
    obtain⟨q,rfl⟩:=jV h1.symm h2;refine⟨q,rfl,?_⟩;rw[←List.cons_append]at h1;exact List.append_cancel_right h1
   cases h with
   |nil=>simp at hp
   |ret=>obtain⟨q,rfl,rfl⟩:=ne hp (fun h=>by cases h);rw[←List.cons_append,List.dropLast_concat];exact .ret
   |skip=>obtain⟨q,rfl,rfl⟩:=ne hp (fun h=>by cases h);rw[List.dropLast_concat];exact .skip
   |label=>obtain⟨q,rfl,rfl⟩:=ne hp (fun h=>by cases h);rw[List.dropLast_concat];exact .label
   |inBlock=>obtain⟨q,rfl,rfl⟩:=ne hp (fun h=>by cases h);rw[List.dropLast_concat];exact .inBlock
   |seq=>obtain⟨q,rfl,rfl⟩:=ne hp (fun h=>by cases h);rw[←List.cons_append,←List.cons_append,List.dropLast_concat];exact .seq
   |cond hc=>obtain⟨q,rfl,rfl⟩:=ne hp (fun h=>by cases h);rw[←List.cons_append,List.dropLast_concat];exact .cond hc
   |block=>obtain⟨q,rfl,rfl⟩:=ne hp (fun h=>by cases h);rw[←List.cons_append,←List.cons_append,List.dropLast_concat];exact .block
   |loop=>obtain⟨q,rfl,rfl⟩:=ne hp (fun h=>by cases h);rw[←List.cons_append,←List.cons_append,List.dropLast_concat];exact .loop
   |inLoop=>obtain⟨q,rfl,rfl⟩:=ne hp (fun h=>by cases h);rw[←List.cons_append,←List.cons_append,List.dropLast_concat];exact .inLoop
   |exit he =>
    obtain⟨q,rfl,rfl⟩:=ne hp (fun h=>by cases h);obtain⟨r,rfl,h2⟩:=mg K q he;rw[List.dropLast_concat];exact .exit h2
   |region=>obtain⟨q,rfl,rfl⟩:=ne hp (fun h=>by cases h);rw[←List.cons_append,List.dropLast_concat];exact .region
   |done=>obtain⟨q,rfl,rfl⟩:=ne hp (fun h=>by cases h);rw[List.dropLast_concat];exact .done
theorem di.whole{x:Fs}{xs:List Fs}(h:di (x::xs)):xs≠[]∨∃p,x.todo=p++[mkr]:=by
 cases xs with
 |nil=>exact .inr h.end_
 |cons z zs=>exact .inl (fun h=>by cases h)
theorem step_rel(hS:Sound P E){main main':Bool}{x x':Fs}{xs xs':List Fs}{cs cs':List Frame}{w w' w2:World}{g2:Goroutine}{es:Array Event}
 (hr:SR E f (x::xs) (x'::xs')) (ok:∀ z∈x::xs,OkS P E z) (hx:x.ret=true→xs≠[]) (hw:WR E f w w')
 (h:stepG P main (St x xs cs) w=.go g2 w2 es) (h1:g2.status=.running) (h2:g2.dying=none) (h3:∀ c,g2.frame.mode≠.panicking c) :
 Same P E main' cs cs' f x' xs' w' g2 w2∧LocG P main (St x xs cs) w g2 w2:=by
 obtain⟨⟨e1,e2,e3,ha⟩,hs⟩:=hr.inv;have hok:=ok x (List.mem_cons_self ..);have hxs:∀ z∈xs,OkS P E z:=fun z hz=>ok z (List.mem_cons_of_mem _ hz);obtain⟨fn,tmps,todo,ret⟩:=x;obtain⟨fn',tmps',todo',ret'⟩:=x'
 dsimp only at e1 e2 e3 ha hok hx
 subst e1 e2 e3;obtain⟨hk,F,hF⟩:=hok
 have hout:∀ (k':List Item) (r:Bool) (w3 w3':World),bT P E k'→WR E f w3 w3'→Foot E.ro f f w' w3' →
  (di (⟨fn,tmps',todo,ret⟩::xs')→xs'=[]→∃ p,k'=p++[mkr])→(∀K,K=none∨di (⟨fn,tmps',todo,ret⟩::xs')→stepG P main' (StK K ⟨fn,tmps',todo,ret⟩ xs' cs') w'=.go (StK K ⟨fn,tmps',k',r⟩ xs' cs') w3' #[]) →
  Same P E main' cs cs' f ⟨fn,tmps',todo,ret⟩ xs' w' (G (fr fn tmps k' (if r then .returning else .run)) (xs.map Fs.fr++cs)) w3:=by
  intro k' r w3 w3' hk' hw3 hft hmk hst;refine⟨f,⟨fn,tmps,k',r⟩,xs,⟨fn,tmps',k',r⟩,xs',w3',#[],rfl,.cons ⟨rfl,rfl,rfl,ha⟩ hs,fun z hz=>?_,fun hb=>hb.top (hmk hb),hst,hw3,hft,fun e he=>by simp at he⟩;rcases List.mem_cons.1 hz with rfl|hz
  ·exact⟨hk',F,hF⟩
  ·exact hxs z hz
 cases ret with
 |false =>
  have e0:∀ (t:Array Value) (ys:List Fs) (ds:List Frame),St ⟨fn,t,todo,false⟩ ys ds=G (fr fn t todo .run) (ys.map Fs.fr++ds):=fun _ _ _=>rfl;rw[e0]at h⊢;rcases lone_cases hk h with⟨k',m,hm⟩|⟨id,ops,k',rfl⟩|⟨ops,i,rest,k',rfl⟩
  ·rw[jc hm]at h;cases h;obtain⟨r,rfl⟩:=mute_mode hm;refine⟨hout k' r _ _ (mute_ok hm hk) hw .refl (fun hb e=>?_) fun K hK=>?_,.still rfl rfl fun τ d=>⟨#[],jc hm⟩⟩
   ·subst e;exact mute_end hm hb.end_
   ·rw[jo,jo];exact jc (mute_tk K xs' (mute_rel ha hk hm) (hK.imp (fun h=>h) di.whole))
  ·rw[je]at h;cases h;refine⟨hout (.inRegion ops (Region.schedule (P.follows .mixedOrders) ops (w.tape w.drawn (.order fn id)))::k') false _ {w' with drawn:=w'.drawn+1} (.cons hk.head hk.tail) hw.drew ⟨f.le_refl,Nat.le_refl _,rfl,rfl,rfl,fun _ _ _=>rfl,fun _ _=>rfl,fun _ _ h=>.inl h⟩ (fun hb e=>?_) fun K hK=>?_,1,rfl,rfl,fun τ d ht=>⟨#[],?_⟩⟩
   ·subst e;obtain⟨p,hp⟩:=hb.end_;obtain⟨q,rfl⟩:=jV hp (fun h=>by cases h);exact⟨_::q,rfl⟩
   ·have hc:K=none∨xs'≠[]∨k'≠[]:=hK.imp (fun h=>h) fun hb=>hb.rest (fun h=>by cases h);rw[jo,jo,iT K _ _ _ hc,iT K _ _ _ hc];rw[←hw.tape,←hw.drawn];exact je
   ·have:=ht 0 (by omega);simp only[Nat.add_zero]at this;rw[je];simp only[jW,eu,this];rfl
  ·exact oper_rel hS ha hk ⟨F,hF⟩ hs hxs hw h h1 h2 h3
 |true =>
  cases hs with
  |nil=>exact absurd rfl (hx rfl)
  |@cons y y' ys ys' hy hys =>
   have e0:∀ (t:Array Value) (z:Fs) (zs:List Fs) (ds:List Frame),St ⟨fn,t,todo,true⟩ (z::zs) ds=G (fr fn t todo .returning) (z.fr::(zs.map Fs.fr++ds)):=fun _ _ _ _=>rfl;rw[e0]at h⊢;obtain⟨v,w3,hrun⟩:=leave_ok hF h;obtain⟨g,v',w2',new,r1,r2,r3,r4,r5,m,q1,q2,q3⟩:=fO (P:=P) (E:=E) F ha f f.le_refl w w' hw v w3 hrun
   have hl:∀ {u:World} {u2:World},(results F tmps).run P u=.ok v u2→stepG P main (G (fr fn tmps todo .returning) (y.fr::(ys.map Fs.fr++cs))) u=.go (G (y.fr.finish v) (ys.map Fs.fr++cs)) u2 (seen P fn ((results F tmps).runT P u #[]).2):=by
    intro u u2 hu;exact leave_step hF (Prod.ext (by rw[Sem.runT_fst];exact hu) rfl)
   rw[hl hrun]at h;cases h;obtain⟨z,z',k1,k3,k4,k5,k6⟩:=finish_rel (hy.mono r4.le) (hxs y (List.mem_cons_self ..)) r3
   have hbot:di (⟨fn,tmps',todo,true⟩::y'::ys')→ys'≠[]∨∃p,y'.todo=p++[mkr]∧p≠[]:=by
    rintro⟨p,hp,hq⟩
    cases ys' with
    |cons u us=>exact .inl fun h=>by cases h
    |nil =>
     refine .inr ⟨p,hp,?_⟩;rcases hq with hq|hq
     ·exact hq
     ·simp at hq
   rw[k1];refine⟨⟨g,z,ys,z',ys',w2',seen P fn new,rfl,.cons k3 (hys.mono r4.le),fun u hu=>?_,fun hb=>?_,fun K hK=>?_,r2,r4,mX r5⟩,m,q1,q2,fun τ d ht=>⟨_,by rw[←k1];exact hl (q3 τ d ht)⟩⟩
   ·rcases List.mem_cons.1 hu with rfl|hu
    ·exact k4
    ·exact hxs u (List.mem_cons_of_mem _ hu)
   ·have hb':di (y'::ys'):=by
     obtain⟨p,hp,hq⟩:=hb;refine⟨p,hp,?_⟩;rcases hq with hq|hq
     ·exact .inl hq
     ·simp at hq
    refine hb'.top fun e=>?_;rcases hbot hb with h|h
    ·exact absurd e h
    ·exact k6 h
   ·have hc:=leave_step (main:=main') (todo:=todo) (c:=Fs.fr {y' with todo:=tk K y'.todo ys'}) (cs:=(apK K ys').map Fs.fr++cs') hF (r1 #[]);rw[Array.empty_append,k5 K ys' (hK.imp (fun h=>h) hbot)]at hc;rw[jo,jD];exact hc
end Co
namespace Co
open Conc
variable {P:Program}{E:Env}{f:Fm}
def single(g:Goroutine)(w:World):Machine:={world:=w,gs:=#[g],rest:={timers:=#[],alone:=none,slice:=none}}
theorem df(fr:Frame)(cs:List Frame)(w:World):lone fr cs w=single (G fr cs) w:=rfl
theorem dF{g g':Goroutine}{w w':World}(h:single g w=single g' w'):g=g'∧w=w':=by
 injection h with h1 h2;exact⟨by simpa using h2,h1⟩
theorem move_single{g:Goroutine}{w:World}(h:g.status=.running):move P (single g w)=.goroutine (single g w) 0:=by
 simp[move,ask,askOn,single,runnable_eq,due,ahead,Goroutine.canRun,List.range_succ,choose,pure,Sem.run,Question.forced,h]
theorem bH{g g':Goroutine}{w w':World}{es:Array Event}(h:g.status=.running)(hs:stepG P true g w=.go g' w' es):step P (single g w)=.next (single g' w'):=by
 rw[step,stepT,move_single h];simp[runT,single,Array.swapAt!,hs]
theorem bD{g:Goroutine}{w w':World}{o:Outcome}{es:Array Event}(h:g.status=.running)(hs:stepG P true g w=.ended o w' es):step P (single g w)=.ended o w':=by
 rw[step,stepT,move_single h];simp[runT,single,Array.swapAt!,hs]
theorem step_waiting{g:Goroutine}{w:World}(h:g.status=.waiting):step P (single g w)=.next (single g w):=by
 rw[step,stepT];simp[move,ask,askOn,single,runnable_eq,due,ahead,Goroutine.canRun,List.range_succ,pure,h]
theorem endWith_ended(w:World)(fd:Nat)(t:ByteArray)(o:Outcome):∃ o' w' es,endWith w fd t o=.ended o' w' es:=by
 unfold endWith
 dsimp only
 split
 ·split<;>exact⟨_,_,_,rfl⟩
 ·exact⟨_,_,_,rfl⟩
 ·exact⟨_,_,_,rfl⟩
theorem step_blocked{g:Goroutine}{w:World}(h:g.status=.blocked):∃ o w',step P (single g w)=.ended o w':=by
 obtain⟨o,w',es,he⟩:=endWith_ended w 2 (bytes "fatal error: all goroutines are asleep - deadlock!\n") (.fatal "all goroutines are asleep - deadlock!");refine⟨o,w',?_⟩;rw[step,stepT];simp[move,ask,askOn,single,runnable_eq,due,ahead,Goroutine.canRun,List.range_succ,pure,h];rw[he]
inductive lH:Goroutine→Prop
 |blocked {g:Goroutine} (h:g.status=.blocked):lH g
 |waiting {g:Goroutine} (h:g.status=.waiting):lH g
 |dies {g:Goroutine} {d:Dying} {x:Fatal} (h:g.status=.running) (hd:g.dying=some d) (hc:d.calling=false) (hf:d.fatal=some x):lH g
theorem doomed_step{g g2:Goroutine}{w w2:World}{es:Array Event}{d:Dying}{x:Fatal}(hd:g.dying=some d)(hc:d.calling=false)(hf:d.fatal=some x)(h:stepG P true g w=.go g2 w2 es):lH g2:=by
 obtain⟨fr,cs,st,dy,off⟩:=g
 dsimp only at hd
 subst hd;obtain⟨todo,texts,calling,pending,re,hand,fatal⟩:=d
 dsimp only at hc hf
 subst hc hf;simp only[stepG,die,writeOn]at h;split at h
 ·cases h
 ·split at h
  ·cases h;exact .dies rfl rfl rfl rfl
  ·cases h;exact .blocked rfl
  ·cases h
  ·cases h
theorem jE{n:Nat}:∀ {g:Goroutine} {w:World},lH g→∀ fr cs w2,runN P n (single g w)≠.next (lone fr cs w2):=by
 induction n with
 |zero =>
  intro g w hg fr cs w2 h;simp only[runN,Stepped.next.injEq,df]at h;obtain⟨rfl,-⟩:=dF h
  cases hg with
  |blocked h=>cases h
  |waiting h=>cases h
  |dies h hd=>cases hd
 |succ n ih =>
  intro g w hg fr cs w2 h;simp only[runN]at h
  cases hg with
  |blocked hb =>
   obtain⟨o,w',hs⟩:=step_blocked (P:=P) (w:=w) hb;rw[hs]at h;cases h
  |waiting hb =>
   rw[step_waiting hb]at h;exact ih (.waiting hb) fr cs w2 h
  |dies hr hd hc hf =>
   have:(∃g2 w3 es,stepG P true g w=.go g2 w3 es)∨∃o w3 es,stepG P true g w=.ended o w3 es:=by
    obtain⟨fr,cs,st,dy,off⟩:=g
    dsimp only at hd
    subst hd;rename_i d x;obtain⟨todo,texts,calling,pending,re,hand,fatal⟩:=d
    dsimp only at hc hf
    subst hc hf;simp only[stepG,die,writeOn];split
    ·exact .inr ⟨_,_,_,rfl⟩
    ·split
     ·exact .inl ⟨_,_,_,rfl⟩
     ·exact .inl ⟨_,_,_,rfl⟩
     ·exact .inr ⟨_,_,_,rfl⟩
     ·exact .inr ⟨_,_,_,rfl⟩
   rcases this with⟨g2,w3,es,hs⟩|⟨o,w3,es,hs⟩
   ·rw[bH hr hs]at h;exact ih (doomed_step hd hc hf hs) fr cs w2 h
   ·rw[bD hr hs]at h;cases h
def c0(P:Program):Frame:={fn:=P.funcs.size,tmps:=#[],todo:=[.call ⟨.nil,#[]⟩ false "fmt's door" #[]],defers:=[],mode:=.run,kind:=.normal}
def Fs.pan(x:Fs)(ch:List PanicEntry):Frame:={x.fr with mode:=.panicking ch}
theorem nM(x:Fs)(ch:List PanicEntry):x.fr.raise ch=x.pan ch:=by
 obtain⟨fn,tmps,todo,ret⟩:=x
 cases ret<;>rfl
theorem pan_step{x:Fs}{c:Frame}{cs:List Frame}{ch:List PanicEntry}{w:World}(h:∃ F,P.funcs[x.fn]? = some F):stepG P true (G (x.pan ch) (c::cs)) w=.go (G (c.raise ch) cs) w #[]:=by
 obtain⟨F,hF⟩:=h;obtain⟨fn,tmps,todo,ret⟩:=x;simp only at hF;simp[G,stepG,unwind,Fs.pan,Fs.fr,fr,Frame.catches,hF]
theorem pan_c0{ch:List PanicEntry}{w:World}:∃ o es,stepG P true (G ((c0 P).raise ch) []) w=.ended o w es:=by
 have h1:("fmt's door".startsWith "fmt's door")=true:=by decide +kernel
 simp[G,stepG,unwind,c0,Frame.raise,Frame.catches,h1]
theorem pan_never:∀ (xs:List Fs) (x:Fs) (ch:List PanicEntry) (w:World) (n:Nat),(∀z∈x::xs,∃F,P.funcs[z.fn]? = some F)→∀ fr cs w2,(∀c,fr.mode≠.panicking c)→runN P n (single (G (x.pan ch) (xs.map Fs.fr++[c0 P])) w)≠.next (lone fr cs w2)
 |xs,x,ch,w,0,hF,fr,cs,w2,hm,h=>by
  simp only[runN,Stepped.next.injEq,df]at h;obtain⟨h,-⟩:=dF h;simp only[G,Goroutine.mk.injEq]at h;exact hm ch (by rw[←h.1];rfl)
 |[],x,ch,w,n+1,hF,fr,cs,w2,hm,h=>by
  simp only[runN]at h;rw[show step P (single (G (x.pan ch) (List.map Fs.fr []++[c0 P])) w)=_ from bH rfl (pan_step (c:=c0 P) (cs:=[]) (hF x (List.mem_cons_self ..)))]at h;simp only at h
  cases n with
  |zero =>
   simp only[runN,Stepped.next.injEq,df]at h;obtain⟨h,-⟩:=dF h;simp only[G,Goroutine.mk.injEq]at h;exact hm ch (by rw[←h.1];rfl)
  |succ n =>
   obtain⟨o,es,he⟩:=pan_c0 (P:=P) (ch:=ch) (w:=w);simp only[runN]at h;rw[bD rfl he]at h;cases h
 |y::ys,x,ch,w,n+1,hF,fr,cs,w2,hm,h=>by
  simp only[runN]at h;rw[show step P (single (G (x.pan ch) (List.map Fs.fr (y::ys)++[c0 P])) w)=_ from bH rfl (pan_step (c:=y.fr) (cs:=ys.map Fs.fr++[c0 P]) (hF x (List.mem_cons_self ..)))]at h;simp only[nM]at h;exact pan_never ys y ch w n (fun z hz=>hF z (List.mem_cons_of_mem _ hz)) fr cs w2 hm h
def Fine(g:Goroutine):Prop:=g.status=.running∧g.dying=none∧∀ c,g.frame.mode≠.panicking c
theorem gy(x:Fs)(cs:List Frame):Fine (G x.fr cs):=by
 obtain⟨fn,tmps,todo,ret⟩:=x;refine⟨rfl,rfl,fun c=>?_⟩
 cases ret<;>exact fun h=>by cases h
def Kinds(x:Fs)(cs:List Frame)(s:GStep):Prop :=
 (∃o w es,s=.ended o w es)∨∃g w es,s=.go g w es∧(Fine g∨lH g∨∃ch,g=G (x.pan ch) cs)
theorem Kinds.fine{x:Fs}{cs:List Frame}{s:GStep}{g:Goroutine}{w:World}{es:Array Event}(h:s=.go g w es)(hg:Fine g):Kinds x cs s:=.inr ⟨g,w,es,h,.inl hg⟩
theorem Kinds.after{x:Fs}{cs:List Frame}{s:GStep}{es:Array Event}(h:Kinds x cs s):Kinds x cs (s.after es):=by
 rcases h with⟨o,w,e,rfl⟩|⟨g,w,e,rfl,hg⟩
 ·exact .inl ⟨_,_,_,rfl⟩
 ·exact .inr ⟨g,w,_,rfl,hg⟩
theorem dieOf_kind(x:Fs)(cs:List Frame)(fr:Frame)(a:List ByteArray)(m:String)(b:Bool)(w:World):Kinds x cs (dieOf fr a m b w):=.inr ⟨_,_,_,rfl,.inr (.inl (.dies rfl rfl rfl rfl))⟩
theorem fatal_kind(x:Fs)(cs:List Frame)(fr:Frame)(ds:List Frame)(m:String)(w:World):Kinds x cs (endFatal P fr ds none m w):=by
 unfold endFatal
 dsimp only
 split
 ·exact dieOf_kind ..
 ·exact .inl ⟨_,_,_,rfl⟩
 ·exact .inl ⟨_,_,_,rfl⟩
theorem early_ended(hS:Sound P E)(fr:Frame)(cs:List Frame)(g:Nat)(w:World):∃ o w2 es,early P fr cs none g w=.ended o w2 es:=by
 refine⟨.unsupported (.initOrder g) (fr.pos P),w,#[],?_⟩;simp[early,hS.early.1,hS.early.2 g]
theorem halt_kind(hS:Sound P E){x:Fs}{cs:List Frame}{s:Sem Next}{w w3:World}{y:Halt}(hrun:s.run P w=.halt y w3):Kinds x cs (stepG.apply P true x.fr cs none s w):=by
 have hf:=Sem.runT_fst P s w #[];unfold stepG.apply;generalize hr:s.runT P w #[]=r at hf;obtain⟨r,e⟩:=r
 dsimp only at hf
 rw[hrun]at hf;subst hf
 dsimp only
 refine Kinds.after ?_
 cases y with
 |panic v=>exact .inr ⟨_,_,_,rfl,.inr (.inr ⟨[{v,recovered:=false}],by rw[←nM];rfl⟩)⟩
 |goexit=>exact .inr ⟨_,_,_,rfl,.inr (.inr ⟨[goexitEntry],by rw[←nM];rfl⟩)⟩
 |blocked=>exact .inr ⟨_,_,_,rfl,.inr (.inl (.blocked rfl))⟩
 |waiting=>exact .inr ⟨_,_,_,rfl,.inr (.inl (.waiting rfl))⟩
 |exit c=>exact .inl ⟨_,_,_,rfl⟩
 |stuck s=>exact .inl ⟨_,_,_,rfl⟩
 |fatal m=>exact fatal_kind ..
 |throw m=>exact dieOf_kind ..
 |unsupported u =>
  by_cases hu:∃ g,u=.initOrder g
  ·obtain⟨g,rfl⟩:=hu;obtain⟨o,w2,es,h⟩:=early_ended hS x.fr cs g w3;exact .inl ⟨o,w2,es,h⟩
  ·refine .inl ?_;cases u<;>first|(exact absurd ⟨_,rfl⟩ hu)|exact⟨_,_,_,rfl⟩
theorem todo_kind{main:Bool}{fn:FuncId}{tmps:Array Value}{k:List Item}{cs:List Frame}{w:World}(hk:bT P E k) :
 (∃k' m,Mute P E fn tmps k k' m)∨(∃id ops k',k=.code (.region id ops true)::k')∨(∃ops i rest k',k=.inRegion ops (i::rest)::k')∨∃o w2 es,stepG P main (G (fr fn tmps k .run) cs) w=.ended o w2 es:=by
 by_cases hgo:∃ g2 w2 es,stepG P main (G (fr fn tmps k .run) cs) w=.go g2 w2 es
 ·obtain⟨g2,w2,es,h⟩:=hgo;rcases lone_cases hk h with h|h|h
  ·exact .inl h
  ·exact .inr (.inl h)
  ·exact .inr (.inr (.inl h))
 ·have hm:∀ k' m,¬Mute P E fn tmps k k' m:=fun k' m h=>hgo ⟨_,_,_,jc h⟩
  cases k with
  |nil=>exact absurd .nil (hm _ _)
  |cons it k =>
   cases it with
   |code c =>
    cases c with
    |skip=>exact absurd .skip (hm _ _)
    |label l=>exact absurd .label (hm _ _)
    |ret=>exact absurd .ret (hm _ _)
    |seq a b=>exact absurd .seq (hm _ _)
    |block l b=>exact absurd .block (hm _ _)
    |loop b=>exact absurd .loop (hm _ _)
    |region id ops d =>
     cases d with
     |false=>exact absurd .region (hm _ _)
     |true=>exact .inr (.inl ⟨_,_,_,rfl⟩)
    |cond c a b =>
     right;right;right
     cases hc:(fr fn tmps (.code (.cond c a b)::k) .run).eval c with
     |bool t=>exact absurd (.cond hc) (hm _ _)
     |_ =>
      simp only[fr]at hc;simp only[G,stepG,stepG.exec,fr,hc];exact⟨_,_,_,rfl⟩
    |exit id =>
     right;right;right
     cases he:exitTo id k with
     |some k'=>exact absurd (.exit he) (hm _ _)
     |none =>
      simp only[G,stepG,stepG.exec,fr,he,Option.elim];exact⟨_,_,_,rfl⟩
    |refuse why =>
     right;right;right;simp only[G,stepG,stepG.exec,fr];exact⟨_,_,_,rfl⟩
    |_=>exact hk.head.elim
   |inBlock l=>exact absurd .inBlock (hm _ _)
   |inLoop b=>exact absurd .inLoop (hm _ _)
   |inRegion ops l =>
    cases l with
    |nil=>exact absurd .done (hm _ _)
    |cons i rest=>exact .inr (.inr (.inl ⟨_,_,_,_,rfl⟩))
   |_=>exact hk.head.elim
end Co
namespace Cl
open Conc Co
section
variable (P:Program)(A:Nat→Prop)(ok:FuncId→Prop)
inductive ItC:Item→Prop
 |code {c:Code} (h:OkC P A ok c):ItC (.code c)
 |inBlock (l:Nat):ItC (.inBlock l)
 |inScope {c:Code} (h:OkC P A ok c):ItC (.inScope c)
 |inLoop {c:Code} (h:OkC P A ok c):ItC (.inLoop c)
 |inRegion {ops:Array Oper} {l:List Nat} (h:∀ o∈ops,OkOp P A ok o.op):ItC (.inRegion ops l)
 |inRangeFunc {l:Nat} (h:A l):ItC (.inRangeFunc l)
 |endRangeFunc {l:Nat} (h:A l):ItC (.endRangeFunc l)
 |beginRound:ItC .beginRound
structure FrC(fr:Frame):Prop where
 fn:∃ F,P.funcs[fr.fn]? = some F
 tmps:CA (EV P A ok) fr.tmps
 todo:∀ it∈fr.todo,ItC P A ok it
 defers:∀ d∈fr.defers,CD (EV P A ok) d
 mode:∀ ch,fr.mode=.panicking ch→∀ e∈ch,CV (EV P A ok) e.v
 round:∀ l,fr.roundOf=some l→A l
 kind:fr.kind=.normal∨fr.kind=.deferred
def Bot:List Frame→Prop
 |[]=>False
 |[f]=>f.kind=.normal∧f.roundOf=none
 |_::g::r=>Bot (g::r)
def Ne:List Frame→Prop
 |g::f::r=>(g.kind=.normal→f.todo≠[])∧Ne (f::r)
 |_=>True
structure StC(fr:Frame)(frs:List Frame):Prop where
 all:∀ f∈fr::frs,FrC P A ok f
 bot:Bot (fr::frs)
 ne:Ne (fr::frs)
def kt(frs:List Frame)(k:List Item):List Item :=
 match frs with
 |[]=>k
 |_::_=>[]
def wk(fr:Frame)(k:List Item):Frame:={fr with todo:=fr.todo++k}
def addK:List Frame→List Item→List Frame
 |[],_=>[]
 |f::frs,k=>wk f (kt frs k)::addK frs k
def gk(fr:Frame)(frs:List Frame)(k:List Item)(cs:List Frame):Goroutine:=G (wk fr (kt frs k)) (addK frs k++cs)
structure OnTo(pc main:Bool)(fr:Frame)(frs:List Frame)(w:World)(fr':Frame)(frs':List Frame)(w':World)(es:Array Event)(n:Nat):Prop where
 drawn:w'.drawn=w.drawn+n
 tape:w'.tape=w.tape
 step:∀ k cs τ d,(pc=false→k=[])→(∀i,i<n→τ (d+i)=w.tape (w.drawn+i))→stepG P main (gk fr frs k cs) (re w τ d)=.go (gk fr' frs' k cs) (re w' τ (d+n)) es
def Bad(s:GStep):Prop:=(∃o w es,s=.ended o w es)∨∃g w es,s=.go g w es∧lH g
inductive Out (pc main:Bool) (fr:Frame) (frs:List Frame) (w:World):Prop
 |on {fr':Frame} {frs':List Frame} {w':World} {es:Array Event} {n:Nat} (h:OnTo P pc main fr frs w fr' frs' w' es n) (st:StC P A ok fr' frs') (hc:HC (EV P A ok) w') (fw:Fw (EV P A ok) w w') (ev:∀ e∈es,EvA (EV P A ok) w'.heap.size e)
 |leave {v:Value} {w':World} {es:Array Event} {n:Nat} (hf:frs=[]) (hd:w'.drawn=w.drawn+n) (ht:w'.tape=w.tape)
  (h:∀ k c cs τ d,(∀i,i<n→τ (d+i)=w.tape (w.drawn+i))→stepG P main (G (wk fr k) (c::cs)) (re w τ d)=.go (G (c.finish v) cs) (re w' τ (d+n)) es)
  (h0:P.inits.idxOf? fr.fn=none→∀ k τ d,(∀i,i<n→τ (d+i)=w.tape (w.drawn+i))→stepG P true (G (wk fr k) []) (re w τ d)=.ended (.done v) (re w' τ (d+n)) es)
  (hv:CV (EV P A ok) v) (hc:HC (EV P A ok) w') (fw:Fw (EV P A ok) w w') (ev:∀ e∈es,EvA (EV P A ok) w'.heap.size e) (md:fr.mode=.returning∧fr.defers=[])
 |throw {ch:List PanicEntry} (hf:frs=[]) (h:∀ k c cs τ d,stepG P main (G (wk fr k) (c::cs)) (re w τ d)=.go (G (c.raise ch) cs) (re w τ d) #[]) (md:fr.mode=.panicking ch)
 |arrive (hpc:pc=true) (hf:frs=[]) (ht:fr.todo=[]) (hm:fr.mode=.run)
 |jump (hpc:pc=true) (hf:frs=[]) (hm:fr.mode=.run) (h:∀ why c cs,Bad (stepG P main (G (wk fr [.code (.refuse why)]) (c::cs)) w))
 |bad (h:∀ k c cs,(pc=false→k=[])→Bad (stepG P main (gk fr frs k (c::cs)) w))
structure Snd2:Prop extends Snd P A ok where
 early:P.follows .staticDataAhead=true∧∀ g,P.stepOf g=none
 recov:P.follows .rangeFuncRecover=true
end
section
variable {P:Program}{A:Nat→Prop}{ok:FuncId→Prop}
theorem Bot.swap{f f':Frame}{r:List Frame}(h:Bot (f::r))(hk:f'.kind=f.kind)(hr:f'.roundOf=f.roundOf):Bot (f'::r):=by
 cases r with
 |nil=>exact⟨hk.trans h.1,hr.trans h.2⟩
 |cons g r=>exact h
theorem Ne.swap{f f':Frame}{r:List Frame}(h:Ne (f::r))(hk:f'.kind=f.kind):Ne (f'::r):=by
 cases r with
 |nil=>trivial
 |cons g r=>exact⟨fun e=>h.1 (hk.symm.trans e),h.2⟩
theorem StC.swap{fr fr':Frame}{frs:List Frame}(h:StC P A ok fr frs)(hf:FrC P A ok fr')(hk:fr'.kind=fr.kind)(hr:fr'.roundOf=fr.roundOf):StC P A ok fr' frs :=
 ⟨fun f hm=>by
  rcases List.mem_cons.1 hm with rfl|hm
  ·exact hf
  ·exact h.all f (List.mem_cons_of_mem _ hm),h.bot.swap hk hr,h.ne.swap hk⟩
theorem StC.push{fr fr':Frame}{frs:List Frame}(h:StC P A ok fr frs)(hf:FrC P A ok fr')(hn:fr'.kind=.normal→fr.todo≠[]):StC P A ok fr' (fr::frs) :=
 ⟨fun f hm=>by
  rcases List.mem_cons.1 hm with rfl|hm
  ·exact hf
  ·exact h.all f hm,h.bot,⟨hn,h.ne⟩⟩
theorem StC.pop{fr f:Frame}{frs:List Frame}(h:StC P A ok fr (f::frs)):StC P A ok f frs:=⟨fun g hm=>h.all g (List.mem_cons_of_mem _ hm),h.bot,h.ne.2⟩
theorem StC.top{fr:Frame}{frs:List Frame}(h:StC P A ok fr frs):FrC P A ok fr:=h.all fr (List.mem_cons_self ..)
theorem OnTo.calm{pc main:Bool}{fr fr':Frame}{frs:List Frame}{w:World}(h:∀ k L w,stepG P main (G (wk fr k) L) w=.go (G (wk fr' k) L) w #[]):OnTo P pc main fr frs w fr' frs w #[] 0:=⟨rfl,rfl,fun k cs τ d _ _=>h _ _ _⟩
theorem Out.calm{pc main:Bool}{fr fr':Frame}{frs:List Frame}{w:World}(hw:HC (EV P A ok) w)(h:∀ k L w,stepG P main (G (wk fr k) L) w=.go (G (wk fr' k) L) w #[])(st:StC P A ok fr' frs):Out P A ok pc main fr frs w :=
 .on (.calm h) st hw (.refl w) fun e he=>by simp at he
theorem ik{fr:Frame}{k:List Item}{v:Value}(h:fr.todo≠[]):(wk fr k).finish v=wk (fr.finish v) k:=by
 obtain⟨fn,tmps,todo,defers,mode,kind,roundOf⟩:=fr
 cases todo with
 |nil=>exact absurd rfl h
 |cons it t =>
  cases it with
  |inRegion ops l=>cases l<;>rfl
  |_=>rfl
theorem raise_k{fr:Frame}{k:List Item}{ch:List PanicEntry}:(wk fr k).raise ch=wk (fr.raise ch) k:=by
 obtain⟨fn,tmps,todo,defers,mode,kind,roundOf⟩:=fr
 cases mode<;>rfl
theorem FrC.set{fr:Frame}(h:FrC P A ok fr){todo:List Item}(ht:∀ it∈todo,ItC P A ok it):FrC P A ok {fr with todo}:=⟨h.fn,h.tmps,ht,h.defers,h.mode,h.round,h.kind⟩
theorem FrC.finish{fr:Frame}(h:FrC P A ok fr){v:Value}(hv:CV (EV P A ok) v):FrC P A ok (fr.finish v)∧(fr.finish v).kind=fr.kind∧(fr.finish v).roundOf=fr.roundOf:=by
 obtain⟨fn,tmps,todo,defers,mode,kind,roundOf⟩:=fr;have ht:=h.todo
 dsimp only at ht
 cases todo with
 |nil=>exact⟨h,rfl,rfl⟩
 |cons it k =>
  have hk:∀ x∈k,ItC P A ok x:=fun x hx=>ht x (List.mem_cons_of_mem _ hx);have h0:=ht it (List.mem_cons_self ..)
  cases it with
  |inRegion ops l =>
   cases l with
   |nil=>exact⟨h,rfl,rfl⟩
   |cons i rest =>
    refine⟨⟨h.fn,?_,?_,h.defers,h.mode,h.round,h.kind⟩,rfl,rfl⟩
    ·simp only[Frame.finish]
     cases (ops[i]?).bind (·.dst) with
     |none=>exact h.tmps
     |some d=>exact h.tmps.set d hv
    ·intro x hx;simp only[Frame.finish]at hx;rcases List.mem_cons.1 hx with rfl|hx
     ·cases h0 with
      |inRegion ho=>exact .inRegion ho
     ·exact hk x hx
  |inRangeFunc l =>
   refine⟨h.set (todo:=.endRangeFunc l::k) fun x hx=>?_,rfl,rfl⟩;rcases List.mem_cons.1 hx with rfl|hx
   ·cases h0 with
    |inRangeFunc hl=>exact .endRangeFunc hl
   ·exact hk x hx
  |beginRound=>exact⟨h.set hk,rfl,rfl⟩
  |call=>cases h0
  |extern=>cases h0
  |_=>exact⟨h,rfl,rfl⟩
theorem FrC.raise{fr:Frame}(h:FrC P A ok fr){ch:List PanicEntry}(hc:∀ e∈ch,CV (EV P A ok) e.v):FrC P A ok (fr.raise ch)∧(fr.raise ch).kind=fr.kind∧(fr.raise ch).roundOf=fr.roundOf:=by
 unfold Frame.raise;split
 ·rename_i old hm;refine⟨⟨h.fn,h.tmps,h.todo,h.defers,fun c e x hx=>?_,h.round,h.kind⟩,rfl,rfl⟩;cases e;rcases List.mem_append.1 hx with hx|hx
  ·exact hc x hx
  ·exact h.mode _ hm x hx
 ·exact⟨⟨h.fn,h.tmps,h.todo,h.defers,fun c e x hx=>by cases e;exact hc x hx,h.round,h.kind⟩,rfl,rfl⟩
theorem bZ{E:Ev}{fn:FuncId}{n:Nat}{es:Array Event}(h:∀ e∈es,EvA E n e):∀ e∈seen P fn es,EvA E n e:=fun e he=>h e (mem_seen he)
section
variable {fr:Frame}{cs:List Frame}{s:Sem Next}{w w':World}{es:Array Event}
theorem apply_value{v:Value}(h:s.runT P w #[]=(.ok (.value v) w',es))(hk:fr.kind≠.early):stepG.apply P true fr cs none s w=.go (G (fr.finish v) cs) w' (seen P fr.fn es):=by
 have hk':(fr.kind==CallKind.early)=false:=by simpa using hk
 unfold stepG.apply;rw[h]
 dsimp only
 rw[hk'];simp only[Bool.false_eq_true,if_false,GStep.after];rfl
theorem apply_skip(h:s.runT P w #[]=(.ok .skip w',es))(hk:fr.kind≠.early):stepG.apply P true fr cs none s w=.go (G (fr.finish undef) cs) w' (seen P fr.fn es):=by
 have hk':(fr.kind==CallKind.early)=false:=by simpa using hk
 unfold stepG.apply;rw[h]
 dsimp only
 rw[hk'];simp only[Bool.false_eq_true,if_false,GStep.after];rfl
theorem apply_enter{f:FuncId}{args:Array Value}(h:s.runT P w #[]=(.ok (.enter f args) w',es))(hk:fr.kind≠.early)(hn:∀ d b r x k,fr.todo≠.call d b r x::k):stepG.apply P true fr cs none s w=.go (G (Frame.enter P f args .normal) (fr::cs)) w' (seen P fr.fn es):=by
 have hk':(fr.kind==CallKind.early)=false:=by simpa using hk
 obtain⟨fn,tmps,todo,defers,mode,kind,roundOf⟩:=fr;unfold stepG.apply;rw[h]
 dsimp only
 dsimp only at hk'
 rw[hk'];simp only[Bool.false_eq_true,if_false,GStep.after]
 cases todo with
 |nil=>rfl
 |cons it k =>
  cases it with
  |call d b r x=>exact absurd rfl (hn d b r x k)
  |_=>rfl
theorem apply_round{l:Nat}{f:FuncId}{t:Array Value}{a b:Code}(h:s.runT P w #[]=(.ok (.round l f t a b) w',es))(hk:fr.kind≠.early):stepG.apply P true fr cs none s w=.go (G (Frame.round l f t a b .normal) (fr::cs)) w' (seen P fr.fn es):=by
 have hk':(fr.kind==CallKind.early)=false:=by simpa using hk
 unfold stepG.apply;rw[h]
 dsimp only
 rw[hk'];simp only[Bool.false_eq_true,if_false,GStep.after];rfl
theorem apply_defer{d:Deferred}(h:s.runT P w #[]=(.ok (.defer d) w',es))(hk:fr.kind≠.early):stepG.apply P true fr cs none s w=.go (G ({fr with defers:=d::fr.defers}.finish undef) cs) w' (seen P fr.fn es):=by
 have hk':(fr.kind==CallKind.early)=false:=by simpa using hk
 unfold stepG.apply;rw[h]
 dsimp only
 rw[hk'];simp only[Bool.false_eq_true,if_false,GStep.after];rfl
theorem kP(hP:P.follows .rangeFuncRecover=true)(h:s.runT P w #[]=(.ok .recover w',es))(hk:fr.kind≠.early):stepG.apply P true fr cs none s w=(match tryRecover fr cs with
 |some (v,cs')=>.go (G (fr.finish v) cs') w' (seen P fr.fn es)
 |none=>.go (G (fr.finish .nilIface) cs) w' (seen P fr.fn es)):=by
 have hk':(fr.kind==CallKind.early)=false:=by simpa using hk
 unfold stepG.apply;rw[h]
 dsimp only
 rw[hk'];simp only[Bool.false_eq_true,if_false,hP,if_true];obtain⟨fn,tmps,todo,defers,mode,kind,roundOf⟩:=fr
 cases roundOf with
 |none =>
  dsimp only
  generalize tryRecover _ cs=o
  cases o<;>simp[GStep.after,G]
 |some l =>
  dsimp only
  generalize tryRecover _ cs=o
  cases o<;>simp[GStep.after,G]
theorem apply_panic{v:Value}(h:s.runT P w #[]=(.halt (.panic v) w',es))(hk:fr.kind≠.early):stepG.apply P true fr cs none s w=.go (G (fr.raise [{v,recovered:=false}]) cs) w' (seen P fr.fn es):=by
 have hk':(fr.kind==CallKind.early)=false:=by simpa using hk
 unfold stepG.apply;rw[h]
 dsimp only
 rw[hk'];simp only[Bool.false_eq_true,if_false,GStep.after];rfl
theorem Bad.after{s:GStep}(h:Bad s)(es:Array Event):Bad (s.after es):=by
 rcases h with⟨o,w,e,rfl⟩|⟨g,w,e,rfl,hg⟩
 ·exact .inl ⟨_,_,_,rfl⟩
 ·exact .inr ⟨g,w,_,rfl,hg⟩
theorem nK(fr:Frame)(a:List ByteArray)(m:String)(b:Bool)(w:World):Bad (dieOf fr a m b w):=.inr ⟨_,_,_,rfl,.dies rfl rfl rfl rfl⟩
theorem bad_fatal(fr:Frame)(ds:List Frame)(m:String)(w:World):Bad (endFatal P fr ds none m w):=by
 unfold endFatal
 dsimp only
 split
 ·exact nK ..
 ·exact .inl ⟨_,_,_,rfl⟩
 ·exact .inl ⟨_,_,_,rfl⟩
theorem apply_bad(hS:Snd2 P A ok){x:Halt}(h:s.runT P w #[]=(.halt x w',es))(hx:∀ v,x≠.panic v)(hg:x≠.goexit):Bad (stepG.apply P true fr cs none s w):=by
 unfold stepG.apply;rw[h]
 dsimp only
 refine Bad.after ?_ _
 cases x with
 |panic v=>exact absurd rfl (hx v)
 |goexit=>exact absurd rfl hg
 |blocked=>exact .inr ⟨_,_,_,rfl,.blocked rfl⟩
 |waiting=>exact .inr ⟨_,_,_,rfl,.waiting rfl⟩
 |exit c=>exact .inl ⟨_,_,_,rfl⟩
 |stuck s=>exact .inl ⟨_,_,_,rfl⟩
 |fatal m=>exact bad_fatal ..
 |throw m=>exact nK ..
 |unsupported u =>
  by_cases hu:∃ g,u=.initOrder g
  ·obtain⟨g,rfl⟩:=hu;exact .inl ⟨.unsupported (.initOrder g) (fr.pos P),w',#[],by simp[early,hS.early.1,hS.early.2 g]⟩
  ·refine .inl ?_;cases u<;>first|(exact absurd ⟨_,rfl⟩ hu)|exact⟨_,_,_,rfl⟩
end
theorem kind_ne{fr:Frame}(h:FrC P A ok fr):fr.kind≠.early:=fun e=>by
 rcases h.kind with k|k<;>rw[k]at e<;>cases e
theorem push_k{fr fr':Frame}{frs cs:List Frame}{k:List Item}:G fr' (wk fr (kt frs k)::(addK frs k++cs))=gk fr' (fr::frs) k cs:=by
 unfold gk
 have:wk fr' (kt (fr::frs) k)=fr':=by
  unfold wk kt;simp
 rw[this];rfl
theorem out_apply2(hS:Snd2 P A ok){pc main:Bool}{fr fr0:Frame}{frs:List Frame}{w w0:World}{es0:Array Event}{n0:Nat}{s:Sem Next}(hw:HC (EV P A ok) w0)(fw0:Fw (EV P A ok) w w0)(hev0:∀ e∈es0,EvA (EV P A ok) w0.heap.size e)(hd0:w0.drawn=w.drawn+n0)(ht0:w0.tape=w.tape)
 (st:StC P A ok fr0 frs) (hne:fr0.todo≠[]) (hu:U P (EV P A ok) s (NextC (EV P A ok)))
 (h:∀ k L τ d,(∀i,i<n0→τ (d+i)=w.tape (w.drawn+i))→stepG P main (G (wk fr k) L) (re w τ d)=GStep.after es0 (stepG.apply P true (wk fr0 k) L none s (re w0 τ (d+n0)))):Out P A ok pc main fr frs w:=by
 obtain⟨h1,h2⟩:=hu w0 #[] hw
 have hk:∀ k,(wk fr0 k).kind≠.early:=fun _=>show fr0.kind≠.early from kind_ne st.top
 have hcall:∀ k' d b r x k,(wk fr0 k').todo≠.call d b r x::k:=fun k' d b r x k e=>by
  have hT:=st.top.todo;unfold wk at e
  dsimp only at e
  cases h0:fr0.todo with
  |nil=>exact hne h0
  |cons it t =>
   rw[h0]at e;simp only[List.cons_append,List.cons.injEq]at e;have:=hT it (by rw[h0];exact List.mem_cons_self ..);rw[e.1]at this;cases this
 unfold LocT at h2;generalize hr:s.runT P w0 #[]=r at h1 h2;obtain⟨r,es⟩:=r
 have ag:∀ (n:Nat) (τ:Nat→Question→Nat) (d:Nat),(∀i,i<n0+n→τ (d+i)=w.tape (w.drawn+i))→∀ i,i<n→τ (d+n0+i)=w0.tape (w0.drawn+i):=fun n τ d ht i hi=>by
  have:=ht (n0+i) (by omega);rw[ht0,hd0,Nat.add_assoc,this,←Nat.add_assoc]
 have evs:∀ {w':World} {new:Array Event},Fw (EV P A ok) w0 w'→(∀e∈new,EvA (EV P A ok) w'.heap.size e)→∀ e∈es0++seen P fr0.fn new,EvA (EV P A ok) w'.heap.size e:=fun fw hev e he=>by
  rcases Array.mem_append.1 he with he|he
  ·exact(hev0 e he).mono fw.size
  ·exact bZ hev e he
 cases r with
 |ok x w' =>
  obtain⟨hx,hc,fw,new,hes,hev⟩:=h1;obtain⟨n,l1,l2,l3⟩:=h2
  have hes2:es=new:=by rw[hes];simp
  subst hes2
  have hd:w'.drawn=w.drawn+(n0+n):=by omega
  have ht:w'.tape=w.tape:=l2.trans ht0
  cases x with
  |value v =>
   obtain⟨k1,k2,k3⟩:=st.top.finish hx;exact .on (n:=n0+n) ⟨hd,ht,fun k cs τ d _ ht=>by unfold gk;rw[h _ _ τ d fun i hi=>ht i (by omega),apply_value (l3 τ _ (ag n τ d ht)) (hk _),Nat.add_assoc,ik hne];rfl⟩ (st.swap k1 k2 k3) hc (fw0.trans fw) (evs fw hev)
  |skip =>
   obtain⟨k1,k2,k3⟩:=st.top.finish (iD (E:=EV P A ok));exact .on (n:=n0+n) ⟨hd,ht,fun k cs τ d _ ht=>by unfold gk;rw[h _ _ τ d fun i hi=>ht i (by omega),apply_skip (l3 τ _ (ag n τ d ht)) (hk _),Nat.add_assoc,ik hne];rfl⟩ (st.swap k1 k2 k3) hc (fw0.trans fw) (evs fw hev)
  |enter f args =>
   obtain⟨hf,ha⟩:=hx;refine .on (n:=n0+n) (frs':=fr0::frs) ⟨hd,ht,fun k cs τ d _ ht=>by unfold gk;rw[h _ _ τ d fun i hi=>ht i (by omega),apply_enter (l3 τ _ (ag n τ d ht)) (hk _) (hcall _),Nat.add_assoc,push_k];rfl⟩ (st.push ?_ fun _=>hne) hc (fw0.trans fw) (evs fw hev);obtain⟨fn,f1,f2,f3⟩:=hS.fns f hf;refine⟨⟨fn,f1⟩,?_,?_,fun d hd=>by simp[Frame.enter]at hd,fun ch e=>by simp[Frame.enter]at e,fun l e=>by simp[Frame.enter]at e,.inl rfl⟩
   ·exact CA.append ha (.replicate iD _)
   ·intro it hit;simp only[Frame.enter,f1,Option.bind_some,List.mem_singleton]at hit;subst hit;rcases f3 with⟨c,f4,f5⟩|⟨f4,-⟩
    ·rw[f4];exact .code f5
    ·rw[f4];exact .code trivial
  |round l f t a b =>
   obtain⟨hl,hf,ht',ha,hb⟩:=hx;refine .on (n:=n0+n) (frs':=fr0::frs) ⟨hd,ht,fun k cs τ d _ ht=>by unfold gk;rw[h _ _ τ d fun i hi=>ht i (by omega),apply_round (l3 τ _ (ag n τ d ht)) (hk _),Nat.add_assoc,push_k];rfl⟩ (st.push ?_ fun _=>hne) hc (fw0.trans fw) (evs fw hev);refine⟨hf,ht',?_,fun d hd=>by simp[Frame.round]at hd,fun ch e=>by simp[Frame.round]at e,fun m e=>by simp[Frame.round]at e;subst e;exact hl,.inl rfl⟩;intro it hit;simp only[Frame.round,List.mem_cons,List.not_mem_nil,or_false]at hit;rcases hit with rfl|rfl|rfl
   ·exact .code ha
   ·exact .beginRound
   ·exact .code hb
  |defer d0 =>
   have hF1:FrC P A ok {fr0 with defers:=d0::fr0.defers}:=⟨st.top.fn,st.top.tmps,st.top.todo,fun y hy=>by
    rcases List.mem_cons.1 hy with rfl|hy
    ·exact hx
    ·exact st.top.defers y hy,st.top.mode,st.top.round,st.top.kind⟩
   obtain⟨k1,k2,k3⟩:=hF1.finish (iD (E:=EV P A ok))
   exact .on (n:=n0+n) ⟨hd,ht,fun k cs τ d _ ht=>by
    unfold gk;rw[h _ _ τ d fun i hi=>ht i (by omega),apply_defer (l3 τ _ (ag n τ d ht)) (hk _),Nat.add_assoc,show({wk fr0 (kt frs k) with defers:=d0::(wk fr0 (kt frs k)).defers}:Frame)=wk {fr0 with defers:=d0::fr0.defers} (kt frs k) from rfl,ik (fr:={fr0 with defers:=d0::fr0.defers}) hne]
    rfl⟩ (st.swap k1 k2 k3) hc (fw0.trans fw) (evs fw hev)
  |recover =>
   by_cases hrec:∃ f r v older,frs=f::r∧fr0.kind=.deferred∧f.mode=.panicking ({v,recovered:=false,goexit:=false}::older)
   ·obtain⟨f,r,v,older,rfl,hkd,hmo⟩:=hrec;have hFf:=st.all f (by simp);have hv:CV (EV P A ok) v:=hFf.mode _ hmo _ (List.mem_cons_self ..);obtain⟨k1,k2,k3⟩:=st.top.finish hv
    have hF2:FrC P A ok {f with mode:=.panicking ({v,recovered:=true}::older)}:=⟨hFf.fn,hFf.tmps,hFf.todo,hFf.defers,fun ch e y hy=>by
     cases e;rcases List.mem_cons.1 hy with rfl|hy
     ·exact hv
     ·exact hFf.mode _ hmo y (List.mem_cons_of_mem _ hy),hFf.round,hFf.kind⟩
    refine .on (n:=n0+n) (fr':=fr0.finish v) (frs':={f with mode:=.panicking ({v,recovered:=true}::older)}::r) ⟨hd,ht,fun k cs τ d _ ht=>?_⟩ ⟨fun g hg=>?_,?_,?_⟩ hc (fw0.trans fw) (evs fw hev)
    ·have et:tryRecover (wk fr0 (kt (f::r) k)) (addK (f::r) k++cs)=some (v,addK ({f with mode:=.panicking ({v,recovered:=true}::older)}::r) k++cs):=by
      unfold tryRecover;rw[show(wk fr0 (kt (f::r) k)).kind=.deferred from hkd];show(match (wk f (kt r k)).mode with|.panicking ({v,recovered:=false,goexit:=false}::older)=>some (v,{wk f (kt r k) with mode:=.panicking ({v,recovered:=true}::older)}::(addK r k++cs))|_=>none)=_;rw[show(wk f (kt r k)).mode=_ from hmo];rfl
     unfold gk;rw[h _ _ τ d fun i hi=>ht i (by omega),kP hS.recov (l3 τ _ (ag n τ d ht)) (hk _),et,Nat.add_assoc]
     dsimp only
     rw[ik hne];rfl
    ·rcases List.mem_cons.1 hg with rfl|hg
     ·exact k1
     ·rcases List.mem_cons.1 hg with rfl|hg
      ·exact hF2
      ·exact st.all g (by simp[hg])
    ·show Bot ({f with mode:=.panicking ({v,recovered:=true}::older)}::r);exact Bot.swap (f:=f) (show Bot (f::r) from st.bot) rfl rfl
    ·refine⟨fun e=>st.ne.1 (k2.symm.trans e),?_⟩;exact Ne.swap (f:=f) st.ne.2 rfl
   ·obtain⟨k1,k2,k3⟩:=st.top.finish (CV.nilIface (E:=EV P A ok));refine .on (n:=n0+n) ⟨hd,ht,fun k cs τ d _ ht=>?_⟩ (st.swap k1 k2 k3) hc (fw0.trans fw) (evs fw hev)
    have et:tryRecover (wk fr0 (kt frs k)) (addK frs k++cs)=none:=by
     unfold tryRecover;rcases st.top.kind with hkd|hkd
     ·rw[show(wk fr0 (kt frs k)).kind=.normal from hkd]
     ·rw[show(wk fr0 (kt frs k)).kind=.deferred from hkd]
      cases frs with
      |nil=>exact absurd (hkd.symm.trans st.bot.1) (by simp)
      |cons f r =>
       show(match (wk f (kt r k)).mode with|.panicking ({v,recovered:=false,goexit:=false}::older)=>some (v,{wk f (kt r k) with mode:=.panicking ({v,recovered:=true}::older)}::(addK r k++cs))|_=>none)=none;split
       ·rename_i v older hmo;exact absurd ⟨f,r,v,older,rfl,hkd,hmo⟩ hrec
       ·rfl
    unfold gk;rw[h _ _ τ d fun i hi=>ht i (by omega),kP hS.recov (l3 τ _ (ag n τ d ht)) (hk _),et,Nat.add_assoc]
    dsimp only
    rw[ik hne];rfl
  |_=>exact hx.elim
 |halt x w' =>
  cases x with
  |panic v =>
   obtain⟨hv,hc,fw,new,hes,hev⟩:=h1;obtain⟨n,l1,l2,l3⟩:=h2
   have hes2:es=new:=by rw[hes];simp
   subst hes2
   have hd:w'.drawn=w.drawn+(n0+n):=by omega
   have ht:w'.tape=w.tape:=l2.trans ht0
   obtain⟨k1,k2,k3⟩:=st.top.raise (ch:=[{v,recovered:=false}]) fun e he=>by rw[List.mem_singleton]at he;subst he;exact hv
   exact .on (n:=n0+n) ⟨hd,ht,fun k cs τ d _ ht=>by unfold gk;rw[h _ _ τ d fun i hi=>ht i (by omega),apply_panic (l3 τ _ (ag n τ d ht)) (hk _),Nat.add_assoc,raise_k];rfl⟩ (st.swap k1 k2 k3) hc (fw0.trans fw) (evs fw hev)
  |goexit=>exact h1.elim
  |_ =>
   refine .bad fun k c cs _=>?_;unfold gk;have:=h (kt frs k) (addK frs k++c::cs) w.tape w.drawn fun _ _=>rfl;rw[bQ,←ht0,←hd0,bQ]at this;rw[this];exact(apply_bad hS hr (fun v e=>by cases e) (fun e=>by cases e)).after _
theorem after_nil(s:GStep):GStep.after #[] s=s:=by cases s<;>simp[GStep.after]
theorem kM(hS:Snd2 P A ok){pc main:Bool}{fr fr0:Frame}{frs:List Frame}{w:World}{s:Sem Next}(hw:HC (EV P A ok) w)(st:StC P A ok fr0 frs)(hne:fr0.todo≠[])(hu:U P (EV P A ok) s (NextC (EV P A ok)))
 (h:∀ k L w,stepG P main (G (wk fr k) L) w=stepG.apply P true (wk fr0 k) L none s w):Out P A ok pc main fr frs w :=
 out_apply2 (n0:=0) (es0:=#[]) hS hw (.refl w) (fun e he=>by simp at he) rfl rfl st hne hu fun k L τ d _=>by rw[h,after_nil];rfl
end
end Cl
