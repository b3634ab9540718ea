/- Texts of this seat,put together: ClJudge,PhTrace,CoSim,CoWalk,PhSit,PhInv. -/
import Derived.Test.YtlaipigilikmbaaGreatDoorMb6
import Derived.Conc.CrowdBase
import Derived.Conc.CrowdComm
import Derived.Conc.Token
namespace Go.Proofs.YtlaipigilikmbaaGreatDoor
noncomputable section
set_option linter.unusedVariables false
set_option linter.unusedSimpArgs false
namespace Cl
open Conc Co
section
variable {P:Program}{A:Nat→Prop}{ok:FuncId→Prop}{Q:Value→World→Prop}{Z:Nat→Prop}
def Wins(P:Program)(Q:Value→World→Prop)(Z:Nat→Prop)(g:Goroutine)(w:World):Prop :=
 ∀gs sl t q τ d,gs[0]? = some g→Leavers P t gs q→Past (ShZ Z) w.heap.size t→Ended P Q (crowd gs (re w τ d) sl) t
theorem Wins.re{g:Goroutine}{w:World}(h:Wins P Q Z g w)(τ:Tp)(d:Nat):Wins P Q Z g (re w τ d):=h
theorem dB{g:Goroutine}{w:World}(hg:g.status=.running)
 (h:∀ τ d,∃g' w' d' es,stepG P true g (re w τ d)=.go g' (re w' τ d') es∧w.heap.size≤w'.heap.size∧(∀e∈es,EvL (ShZ Z) w'.heap.size e)∧Wins P Q Z g' w'):Wins P Q Z g w :=
 turn hg fun gs sl t q τ d h0 hL hP=>by
  obtain⟨g',w',d',es,h1,h2,h3,h4⟩:=h τ d;exact .inl (own_step (w:=w) h0 hL hP h1 h2 h3 fun gs sl t q d h0 hL hP=>h4 gs sl t q τ d h0 hL hP)
theorem wins_calm{fr fr':Frame}{cs cs':List Frame}{w:World}(h:∀ w,stepG P true (G fr cs) w=.go (G fr' cs') w #[])(hk:Wins P Q Z (G fr' cs') w):Wins P Q Z (G fr cs) w :=
 dB rfl fun τ d=>⟨_,w,d,#[],h _,Nat.le_refl _,fun e he=>by simp at he,hk⟩
theorem results_c(hS:Snd2 P A ok){F:Func}{tmps:Array Value}{w:World}{v:Value}(ht:CA (EV P A ok) tmps)(hw:HC (EV P A ok) w)(h:(results F tmps).run P w=.ok v w) :
 CV (EV P A ok) v∧∃ es,(∀e∈es,EvA (EV P A ok) w.heap.size e)∧∀ τ d,(results F tmps).runT P (re w τ d) #[]=(.ok v (re w τ d),es):=by
 rcases(oz (P:=P) (E:=EV P A ok) hS.types F ht).out hw with⟨a,w',es,n,ha,hc,fw,hev,l1,l2,l3⟩|⟨a,w',es,n,ha,hc,fw,hev,l1,l2,l3⟩|⟨x,w',es,k1,k2,k3⟩
 ·have a1:=congrArg Prod.fst (l3 w.tape w.drawn fun _ _=>rfl);rw[bQ,Sem.runT_fst,h]at a1;injection a1 with b1 b2;subst b1;have e2:=congrArg World.drawn b2;simp only[eu]at e2
  have hn:n=0:=by omega
  subst hn
  have b3:w'=w:=by
   have:=congrArg (fun x=>Co.re x w'.tape w'.drawn) b2;simp only[re_re,bQ]at this;rw[l2]at this;rw[show w'.drawn=w.drawn by omega,bQ]at this;exact this.symm
  subst b3;exact⟨ha,es,hev,fun τ d=>l3 τ d fun i hi=>absurd hi (by omega)⟩
 ·have a1:=congrArg Prod.fst (l3 w.tape w.drawn fun _ _=>rfl);rw[bQ,Sem.runT_fst,h]at a1;cases a1
 ·have a1:=congrArg Prod.fst k3;rw[Sem.runT_fst,h]at a1;cases a1
theorem leave_step{fr c:Frame}{cs:List Frame}{F:Func}{w:World}{v:Value}{es:Array Event}{main:Bool}(h1:fr.mode=.returning)(h2:fr.defers=[])(h3:fr.kind=.normal)(h4:P.funcs[fr.fn]? = some F)(h5:(results F fr.tmps).runT P w #[]=(.ok v w,es)) :
 stepG P main (G fr (c::cs)) w=.go (G (c.finish v) cs) w (seen P fr.fn es):=by
 rw[step_ret h1];unfold unwind;rw[h2,h1];simp only[h4,h5,doReturn,h3,GStep.after,Array.append_empty];rfl
theorem wins_leave(hS:Snd2 P A ok)(hZ:∀ x,Z x→¬ A x){fr c:Frame}{cs:List Frame}{F:Func}{w:World}{v:Value}(ht:CA (EV P A ok) fr.tmps)(hw:HC (EV P A ok) w)(h1:fr.mode=.returning)(h2:fr.defers=[])(h3:fr.kind=.normal)(h4:P.funcs[fr.fn]? = some F)(h5:(results F fr.tmps).run P w=.ok v w)
 (hk:CV (EV P A ok) v→Wins P Q Z (G (c.finish v) cs) w):Wins P Q Z (G fr (c::cs)) w:=by
 obtain⟨hv,es,hev,hr⟩:=results_c hS ht hw h5;exact dB rfl fun τ d=>⟨_,w,d,_,leave_step h1 h2 h3 h4 (hr τ d),Nat.le_refl _,fun e he=>evL_of (bZ hev e he) hZ,hk hv⟩
theorem wins_call(hS:Snd2 P A ok)(hZ:∀ x,Z x→¬ A x){f:FuncId}{args:Array Value}{c:Frame}{cs:List Frame}{w:World}{R:Value→World→Prop}(hR:∀ v w τ d,R v w→R v (re w τ d))
 (hf:ok f) (ha:CA (EV P A ok) args) (hw:HC (EV P A ok) w)
 (h:∀ τ d,Calls P f args (re w τ d) fun|.returned v,w'=>R v w'|_,_=>False)
 (hk:∀ v w',R v w'→CV (EV P A ok) v→HC (EV P A ok) w'→Fw (EV P A ok) w w'→Wins P Q Z (G (c.finish v) cs) w'):Wins P Q Z (G (Frame.enter P f args .normal) (c::cs)) w:=by
 obtain⟨fn,f1,f2,f3⟩:=hS.fns f hf
 have hF:FrC P A ok (Frame.enter P f args .normal):=by
  refine⟨⟨fn,f1⟩,CA.append ha (.replicate iD _),?_,fun d hd=>by simp[Frame.enter]at hd,fun ch e=>by simp[Frame.enter]at e,fun l e=>by simp[Frame.enter]at e,.inl rfl⟩;intro it hit;simp only[Frame.enter,f1,Option.bind_some,List.mem_singleton]at hit;subst hit;rcases f3 with⟨c,f4,f5⟩|⟨f4,-⟩
  ·rw[f4];exact .code f5
  ·rw[f4];exact .code trivial
 have st:StC P A ok (Frame.enter P f args .normal) []:=⟨fun g hg=>by
  obtain rfl:=List.mem_singleton.1 hg
  exact hF,⟨rfl,rfl⟩,trivial⟩
 have ht:Tre (StpC P A ok false true) (GoodC false (EnF P R)) ⟨Frame.enter P f args .normal,[],w⟩:=by
  refine tree_c hS (enF_ok hS hR) ⟨st,hw⟩ fun τ=>?_;obtain⟨e,w',fr,hq,hcm,hfn,hl⟩:=h τ 0 [c0 P]
  cases e with
  |returned v =>
   obtain⟨n,hn⟩:=hcm;obtain⟨l1,l2,l3,F,l4,l5⟩:=hl;refine⟨n,fr,w',?_,l1,l2,l3,F,v,l4,hq,l5⟩;rw[show kl false=[] from rfl,gk_nil];exact hn
  |panicked ch=>exact hq.elim
  |outgrown=>exact hq.elim
 have:=tree_walk (Q:=Q) (Z:=Z) (C:=c::cs) (k:=[]) hZ (fun _=>rfl) ht ⟨st,hw⟩ ?_
 ·intro gs sl t q τ d h0 hL hP;refine this gs sl t q τ d ?_ hL hP;rw[gk_nil];exact h0
 ·rintro⟨fr',frs',w'⟩ ⟨hf,hE⟩ ⟨st',hc'⟩ fw
  dsimp only at hf hE st' hc' fw
  subst hf;have hE0:=hE w'.tape w'.drawn;rw[bQ]at hE0;obtain⟨e1,e2,e3,F,v,e4,e5,e6⟩:=hE0;rw[wk_nil];have e7:(results F fr'.tmps).run P w'=.ok v w':=e6;exact wins_leave hS hZ st'.top.tmps hc' e1 e2 e3 e4 e7 fun hv=>hk v w' e5 hv hc' fw
end
end Cl
namespace Ph
open Conc Co Cl
def blk:Loc→Option Nat
 |.cell a=>some a.block
 |.obj r=>some r
 |_=>none
structure Lay where
 n0:Nat
 Z:Nat→Prop
 ro:Nat→Prop
 nx:Nat
 wg:Nat
 cl:Nat
 chb:Nat
def Allow(Y:Lay)(ev:Nat→Nat→Prop)(g:Nat)(x:Touch):Prop :=
 (∃b,blk x.loc=some b∧x.kind=.plain∧(ev g b∨Y.ro b∧x.write=false))∨(x.kind=.atomic∧∃ ad,x.loc=.cell ad∧(ad.block=Y.nx∨ad.block=Y.wg)) ∨
  (x.kind=.said∧x.loc=.cell ⟨Y.wg,1,none⟩∧(g=0∧x.write=false∨g=Y.cl)) ∨
  (x.kind=.atomic∧x.loc=.obj Y.chb∧x.write=false)
structure Split(Y:Lay)(ev:Nat→Nat→Prop):Prop where
 own:∀ g g' b,ev g b→ev g' b→g=g'
 ownRo:∀ g b,ev g b→¬ Y.ro b
 ownNx:∀ g,¬ev g Y.nx
 ownWg:∀ g,¬ev g Y.wg
 ownCh:∀ g,¬ev g Y.chb
 roNx:¬ Y.ro Y.nx
 roWg:¬ Y.ro Y.wg
 ownZ:∀ g b,ev g b→¬ Y.Z b
 roZ:∀ b,Y.ro b→¬ Y.Z b
 cl0:Y.cl≠0
structure TI(Y:Lay)(lv:Nat→Prop)(ev:Nat→Nat→Prop)(t:Trace):Prop where
 nr:∀ said,¬Race said t
 old:∀ g,lv g→∀ i a,i<Y.n0→touchAt t i=some a→a.loc.isMemory=true→Knows t g i∨(ShZ Y.Z a.loc∧a.kind=.atomic)
 low:∀ i op x,i<Y.n0→t[i]? = some op→op.act.touch? = some x→blk x.loc≠some Y.nx∧blk x.loc≠some Y.wg
 new:∀ i op x,Y.n0≤i→t[i]? = some op→op.act.touch? = some x→Allow Y ev op.g x
 sem:∀ i op x,Y.n0≤i→t[i]? = some op→op.act.touch? = some x→x.kind=.said→op.g=0→lv Y.cl→Knows t Y.cl i
 who:∀ i op x,Y.n0≤i→t[i]? = some op→op.act.touch? = some x→lv op.g
 le:Y.n0≤t.size
 over:∀ i g,i<Y.n0→t.g? i=some g→g≠0→t.counts i→∃ j,t.g? j=some 0∧HappensBefore t i j
section
variable {Y:Lay}{lv:Nat→Prop}{ev ev':Nat→Nat→Prop}{t u:Trace}{g:Nat}
theorem Allow.mono(h:∀ g b,ev g b→ev' g b){x:Touch}(k:Allow Y ev g x):Allow Y ev' g x:=by
 rcases k with⟨b,h1,h0,h2⟩|k|k
 ·exact .inl ⟨b,h1,h0,h2.imp (h g b) id⟩
 ·exact .inr (.inl k)
 ·exact .inr (.inr k)
theorem calm_touch(D:Split Y ev){g g':Nat}(hg:g≠g'){a b:Touch}{said:Bool}(ha:Allow Y ev g a)(hb:Allow Y ev g' b)(hc:a.conflicts said b):a.kind=.said∧b.kind=.said∧(g=0∧g'=Y.cl∨g=Y.cl∧g'=0):=by
 obtain⟨hl,hm,hw,hk⟩:=hc
 rcases ha with⟨x,h1,h0,h2⟩|⟨h1,h2⟩|⟨h1,h2,h3⟩|⟨h1,h2,h3⟩<;>rcases hb with⟨y,k1,k0,k2⟩|⟨k1,k2⟩|⟨k1,k2,k3⟩|⟨k1,k2,k3⟩
 ·rw[hl,k1]at h1;cases h1;rcases h2 with h2|⟨h2,h3⟩<;>rcases k2 with k2|⟨k2,k3⟩
  ·exact absurd (D.own _ _ _ h2 k2) hg
  ·exact absurd k2 (D.ownRo _ _ h2)
  ·exact absurd h2 (D.ownRo _ _ k2)
  ·rw[h3,k3]at hw;simp at hw
 ·rw[hl]at h1;obtain⟨ad,e,k2⟩:=k2;rw[e]at h1;cases h1;rcases k2 with k2|k2<;>rw[k2]at h2
  ·exact absurd h2 (fun h=>h.elim (D.ownNx _) fun h=>D.roNx h.1)
  ·exact absurd h2 (fun h=>h.elim (D.ownWg _) fun h=>D.roWg h.1)
 ·rw[hl,k2]at h1;cases h1;exact absurd h2 (fun h=>h.elim (D.ownWg _) fun h=>D.roWg h.1)
 ·rw[hl,k2]at h1;cases h1;rcases h2 with h2|h2
  ·exact absurd h2 (D.ownCh _)
  ·rw[h2.2,k3]at hw;simp at hw
 ·rw[←hl]at k1;obtain⟨ad,e,h2⟩:=h2;rw[e]at k1;cases k1;rcases h2 with h2|h2<;>rw[h2]at k2
  ·exact absurd k2 (fun h=>h.elim (D.ownNx _) fun h=>D.roNx h.1)
  ·exact absurd k2 (fun h=>h.elim (D.ownWg _) fun h=>D.roWg h.1)
 ·rw[h1,k1]at hk;simp at hk
 ·rw[h1,k1]at hk;simp at hk
 ·rw[h1,k1]at hk;simp at hk
 ·rw[←hl,h2]at k1;cases k1;exact absurd k2 (fun h=>h.elim (D.ownWg _) fun h=>D.roWg h.1)
 ·rw[h1,k1]at hk;simp at hk
 ·refine⟨h1,k1,?_⟩;rcases h3 with⟨rfl,h3⟩|rfl<;>rcases k3 with⟨rfl,k3⟩|rfl
  ·exact absurd rfl hg
  ·exact .inl ⟨rfl,rfl⟩
  ·exact .inr ⟨rfl,rfl⟩
  ·exact absurd rfl hg
 ·rw[h1,k1]at hk;simp at hk
 ·rw[←hl,h2]at k1;cases k1;rcases k2 with k2|k2
  ·exact absurd k2 (D.ownCh _)
  ·rw[k2.2,h3]at hw;simp at hw
 ·rw[h1,k1]at hk;simp at hk
 ·rw[h1,k1]at hk;simp at hk
 ·rw[h1,k1]at hk;simp at hk
theorem Knows.grow{t:Trace}{g i:Nat}(u:Trace)(h:Knows t g i):Knows (t++u) g i:=h.app u
theorem over_app{n:Nat}(hn:n≤t.size)(h:∀ i g,i<n→t.g? i=some g→g≠0→t.counts i→∃ j,t.g? j=some 0∧HappensBefore t i j) :
 ∀i g,i<n→(t++u).g? i=some g→g≠0→(t++u).counts i→∃ j,(t++u).g? j=some 0∧HappensBefore (t++u) i j:=fun i g hi hg h0 hc=>by
 have hlt:i<t.size:=Nat.lt_of_lt_of_le hi hn;rw[g?_old hlt]at hg;rw[counts_old hlt]at hc;obtain⟨j,hj,hb⟩:=h i g hi hg h0 hc
 have hjl:j<t.size:=by
  unfold Trace.g? at hj;obtain⟨z,hz,_⟩:=Option.map_eq_some_iff.1 hj;exact lt_size_of_getElem? hz
 exact⟨j,by rw[g?_old hjl];exact hj,hb_app u hb⟩
theorem TI.app(D:Split Y ev')(h:TI Y lv ev t)(hm:∀ g b,ev g b→ev' g b)(hg:lv g)(hu:∀ op∈u,op.g=g)(ha:∀ op∈u,∀x,op.act.touch? = some x→Allow Y ev' g x)
 (hs:∀ op∈u,∀x,op.act.touch? = some x→x.kind=.said→g=0→¬ lv Y.cl):TI Y lv ev' (t++u):=by
 refine⟨fun said=>noRace_append (h.nr said) hu fun i a hi op hop b hb hc=>?_,fun g' hg' i a hi ht hmem=>?_,fun i op x hi ht hx=>?_,fun i op x hi ht hx=>?_,fun i op x hi ht hx hk h0 hcl=>?_,fun i op x hi ht hx=>?_,Nat.le_trans h.le (by simp),over_app h.le h.over⟩
 ·rcases Nat.lt_or_ge i Y.n0 with hlt|hge
  ·rcases h.old g hg i a hlt hi hc.2.1 with hk|⟨esh,e3⟩
   ·exact hk
   ·exfalso;have hb':=ha op hop b hb;obtain⟨hl,hmm,hw,hk⟩:=hc;obtain⟨z,hz,hza⟩:=touch_of hi;have hlow:=h.low i z a hlt hz hza;rcases hb' with⟨y,k1,-,k2⟩|⟨k1,k2⟩|⟨k1,k2,k3⟩|⟨k1,k2,k3⟩
    ·rcases esh with⟨ad,e1,e2⟩|⟨ad,e1,e2⟩
     all_goals
      rw[←hl,e1]at k1;cases k1;rcases k2 with k2|⟨k2,-⟩
      ·exact D.ownZ _ _ k2 e2
      ·exact D.roZ _ k2 e2
    ·rw[e3,k1]at hk;simp at hk
    ·rw[e3,k1]at hk;simp at hk
    ·rw[e3,k1]at hk;simp at hk
  ·obtain⟨z,hz,hza⟩:=touch_of hi;by_cases hzg:z.g=g
   ·have:=knows_own hz;rwa[hzg]at this
   ·obtain⟨s1,s2,s3⟩:=calm_touch D hzg ((h.new i z a hge hz hza).mono hm) (ha op hop b hb) hc;rcases s3 with⟨s3,s4⟩|⟨s3,s4⟩
    ·rw[s4];rw[s4]at hg;exact h.sem i z a hge hz hza s1 s3 hg
    ·exact absurd (s3▸h.who i z a hge hz hza) (hs op hop b hb s2 s4)
 ·have:i<t.size:=Nat.lt_of_lt_of_le hi h.le;rw[touchAt_old this]at ht;exact(h.old g' hg' i a hi ht hmem).imp (·.app u) id
 ·have:i<t.size:=Nat.lt_of_lt_of_le hi h.le;rw[getElem?_append_old this]at ht;exact h.low i op x hi ht hx
 ·rcases getElem?_append_cases ht with⟨_,ht'⟩|⟨_,htu⟩
  ·exact(h.new i op x hi ht' hx).mono hm
  ·rw[hu op htu];exact ha op htu x hx
 ·rcases getElem?_append_cases ht with⟨_,ht'⟩|⟨_,htu⟩
  ·exact(h.sem i op x hi ht' hx hk h0 hcl).app u
  ·exact absurd hcl (hs op htu x hx hk (by rw[←hu op htu];exact h0))
 ·rcases getElem?_append_cases ht with⟨_,ht'⟩|⟨_,htu⟩
  ·exact h.who i op x hi ht' hx
  ·rw[hu op htu];exact hg
theorem TI.mute(h:TI Y lv ev t)(hu:∀ op∈u,op.g=g)(hn:∀ op∈u,op.act.touch? = none):TI Y lv ev (t++u):=by
 refine⟨fun said=>noRace_append (h.nr said) hu fun i a _ op hop b hb _=>(by rw[hn op hop]at hb;cases hb),fun g' hg' i a hi ht hmem=>?_,fun i op x hi ht hx=>?_,fun i op x hi ht hx=>?_,fun i op x hi ht hx hk h0 hcl=>?_,fun i op x hi ht hx=>?_,Nat.le_trans h.le (by simp),over_app h.le h.over⟩
 ·have:i<t.size:=Nat.lt_of_lt_of_le hi h.le;rw[touchAt_old this]at ht;exact(h.old g' hg' i a hi ht hmem).imp (·.app u) id
 ·have:i<t.size:=Nat.lt_of_lt_of_le hi h.le;rw[getElem?_append_old this]at ht;exact h.low i op x hi ht hx
 ·rcases getElem?_append_cases ht with⟨_,ht'⟩|⟨_,htu⟩
  ·exact h.new i op x hi ht' hx
  ·rw[hn op htu]at hx;cases hx
 ·rcases getElem?_append_cases ht with⟨_,ht'⟩|⟨_,htu⟩
  ·exact(h.sem i op x hi ht' hx hk h0 hcl).app u
  ·rw[hn op htu]at hx;cases hx
 ·rcases getElem?_append_cases ht with⟨_,ht'⟩|⟨_,htu⟩
  ·exact h.who i op x hi ht' hx
  ·rw[hn op htu]at hx;cases hx
theorem TI.grow(h:TI Y lv ev t)(hm:∀ g b,ev g b→ev' g b):TI Y lv ev' t:=⟨h.nr,h.old,h.low,fun i op x hi ht hx=>(h.new i op x hi ht hx).mono hm,h.sem,h.who,h.le,h.over⟩
theorem TI.fork{k:Nat}{x y:MemOp}(h:TI Y lv ev t)(h0:lv 0)(hx:x.g=0∧x.act=.go k)(hy:y.g=k∧y.act=.start)(hd:Deaf t 0=0)(hk:Deaf t k=0):TI Y (fun g=>lv g∨g=k) ev (t++#[x,y]):=by
 have hnt:∀ op∈#[x,y],op.act.touch? = none:=by
  intro op hop;simp only[List.mem_toArray,List.mem_cons,List.not_mem_nil,or_false]at hop;rcases hop with rfl|rfl
  ·rw[hx.2];rfl
  ·rw[hy.2];rfl
 have e:t++#[x,y]=(t++#[x])++#[y]:=by apply Array.ext';simp
 have h1:TI Y lv ev ((t++#[x])++#[y]):=(h.mute (u:=#[x]) (g:=0) (fun op hop=>by simp at hop;rw[hop];exact hx.1) fun op hop=>hnt op (by simp at hop;simp[hop])).mute (u:=#[y]) (g:=k) (fun op hop=>by simp at hop;rw[hop];exact hy.1) fun op hop=>hnt op (by simp at hop;simp[hop]);rw[←e]at h1;refine⟨h1.nr,fun g hg i a hi ht hmem=>?_,h1.low,h1.new,fun i op z hi ht hz hzk hz0 hcl=>?_,fun i op z hi ht hz=>.inl (h1.who i op z hi ht hz),h1.le,h1.over⟩
 ·rcases hg with hg|rfl
  ·exact h1.old g hg i a hi ht hmem
  ·have:i<t.size:=Nat.lt_of_lt_of_le hi h.le;rw[touchAt_old this]at ht;exact(h.old 0 h0 i a hi ht hmem).imp (fun hkn=>Go.ConcN.fork_knows hx hy hd hk hkn) id
 ·rcases hcl with hcl|rfl
  ·exact h1.sem i op z hi ht hz hzk hz0 hcl
  ·rcases getElem?_append_cases ht with⟨_,ht'⟩|⟨_,htu⟩
   ·have:=knows_own ht';rw[hz0]at this;exact Go.ConcN.fork_knows hx hy hd hk this
   ·rw[hnt op htu]at hz;cases hz
theorem low_blk{B:Nat}{a:MemAct}{x:Touch}(h:a.low B)(hx:a.touch? = some x):∀ b,blk x.loc=some b→b<B:=by
 intro b hb
 cases a with
 |access e =>
  simp only[MemAct.touch?,Option.some.injEq]at hx;subst hx;obtain⟨loc,wr,sy⟩:=e
  cases loc with
  |cell a=>cases hb;exact h
  |obj r=>cases hb;exact h
  |_=>cases hb
 |mark m =>
  cases m with
  |read a=>simp only[MemAct.touch?,Option.some.injEq]at hx;subst hx;cases hb;exact h
  |write a=>simp only[MemAct.touch?,Option.some.injEq]at hx;subst hx;cases hb;exact h
  |_=>cases hx
 |_=>cases hx
theorem TI.start{B:Nat}(h:Past (ShZ Y.Z) B t)(hn:Y.n0=t.size)(h1:B≤Y.nx)(h2:B≤Y.wg):TI Y (fun g=>g=0) ev t:=by
 refine⟨h.clean,fun g hg i a hi ht hm=>?_,fun i op x hi ht hx=>?_,fun i op x hi ht hx=>?_,fun i op x hi ht hx _ _ _=>?_,fun i op x hi ht hx=>?_,Nat.le_of_eq hn,fun i g hi hg h0 hc=>h.over i g hg h0 hc⟩
 ·subst hg;exact h.known i a ht hm
 ·have:=low_blk (h.seen op (Array.mem_of_getElem? ht)) hx;constructor
  ·intro e;have:=this _ e;omega
  ·intro e;have:=this _ e;omega
 ·have:=lt_size_of_getElem? ht;omega
 ·have:=lt_size_of_getElem? ht;omega
 ·have:=lt_size_of_getElem? ht;omega
theorem norel_past{B:Nat}{a:Addr}(h:∀ op∈t,op.act.low B)(hB:B≤a.block):NoRelease a t:=by
 intro i e;obtain⟨op,ho,hoa⟩:=Option.map_eq_some_iff.1 e;have:=h op (Array.mem_of_getElem? ho);rw[hoa]at this;exact absurd this (Nat.not_lt.2 hB)
structure iR(Y:Lay)(lv:Nat→Prop)(ch:Nat)(t:Trace)(q pc:Nat):Prop where
 rel:∀ g,lv g→g≠0→g≠Y.cl→∃ r,Go.ConcN.RelBy ⟨Y.wg,0,none⟩ t g r∧r<q
 nrl:NoRelease ⟨Y.wg,0,none⟩ t
 qa:t.act? q=some (.mark (.acquire ⟨Y.wg,0,none⟩))
 qg:t.g? q=some Y.cl
 qh:t.heard q
 ca:t.act? pc=some (.close ch)
 cg:t.g? pc=some Y.cl
 chd:t.heard pc
 lt:q<pc
 aft:∀ i op x,pc<i→t[i]? = some op→op.g=Y.cl→op.act.touch? = some x→False
theorem past_end{B ch q pc pr:Nat}{Z':Nat→Prop}(h:TI Y lv ev t)(hl0:lv 0)(he:iR Y lv ch t q pc)(ha:t.act? pr=some (.recvClosed ch))(hg:t.g? pr=some 0)(hh:t.heard pr)
 (hears:Deaf t 0=0) (low:∀ op∈t,op.act.low B) (hZ:∀ b,Y.Z b→Z' b) (hZn:Z' Y.nx) (hZw:Z' Y.wg) (hZc:Z' Y.chb):Past (ShZ Z') B t:=by
 have e1:HappensBefore t pc pr:=.single (.inr ⟨.closed he.ca ha,he.chd,hh⟩);have e2:HappensBefore t q pr:=.trans (.single (.inl ⟨he.lt,_,he.qg,he.cg⟩)) e1
 have hand:∀ i g,Y.n0≤i→t.g? i=some g→g≠0→t.counts i→HappensBefore t i pr:=by
  intro i g hi hgi h0 hc;obtain⟨x,hx,hm,hk⟩:=hc;obtain⟨op,ho,hox⟩:=touch_of hx
  have hgo:op.g=g:=by simpa[Trace.g?,ho] using hgi
  have hl:=h.who i op x hi ho hox;rw[hgo]at hl;by_cases hcl:g=Y.cl
  ·subst hcl;have hle:i≤pc:=Nat.le_of_not_lt fun hlt=>he.aft i op x hlt ho hgo hox;rcases Nat.lt_or_ge i pc with hlt|hge
   ·exact .trans (.single (.inl ⟨hlt,_,hgi,he.cg⟩)) e1
   ·obtain rfl:i=pc:=by omega
    exact e1
  ·obtain⟨r,hr,hrq⟩:=he.rel g hl h0 hcl;have edge:HappensBefore t r q:=.single (.inr ⟨.marked hrq (.inr hr.act) he.qa (fun k _ _=>he.nrl k),hr.heard,he.qh⟩);have hle:i≤r:=Nat.le_of_not_lt fun hlt=>hr.after i hlt hgi ⟨x,hx,hm,hk⟩;rcases Nat.lt_or_ge i r with hlt|hge
   ·exact .trans (.trans (.single (.inl ⟨hlt,g,hgi,hr.g⟩)) edge) e2
   ·obtain rfl:i=r:=by omega
    exact .trans edge e2
 obtain⟨opr,hopr,hopg⟩:=Option.map_eq_some_iff.1 hg;refine⟨h.nr,fun i a hi hm=>?_,fun i g hgi h0 hc=>?_,hears,low⟩
 ·obtain⟨op,ho,hox⟩:=touch_of hi;rcases Nat.lt_or_ge i Y.n0 with hlt|hge
  ·exact(h.old 0 hl0 i a hlt hi hm).imp id fun⟨hs,k⟩=>⟨hs.imp (fun⟨ad,e,hz⟩=>⟨ad,e,hZ _ hz⟩) (fun⟨ad,e,hz⟩=>⟨ad,e,hZ _ hz⟩),k⟩
  ·by_cases hz:op.g=0
   ·have:=knows_own ho;rw[hz]at this;exact .inl this
   ·by_cases hc:t.counts i
    ·exact .inl ⟨pr,opr,hopr,hopg,.inr (hand i op.g hge (by simp[Trace.g?,ho]) hz hc)⟩
    ·right
     have hka:a.kind=.atomic:=by
      apply Classical.byContradiction
      intro hn;exact hc ⟨a,hi,hm,.inl hn⟩
     rcases h.new i op a hge ho hox with⟨b,_,k,_⟩|⟨_,ad,e,k⟩|⟨k,_⟩|⟨_,e,_⟩
     ·rw[hka]at k;cases k
     ·refine⟨.inl ⟨ad,e,?_⟩,hka⟩;rcases k with k|k
      ·rw[k];exact hZn
      ·rw[k];exact hZw
     ·rw[hka]at k;cases k
     ·exact⟨.inr ⟨_,e,hZc⟩,hka⟩
 ·rcases Nat.lt_or_ge i Y.n0 with hlt|hge
  ·exact h.over i g hlt hgi h0 hc
  ·exact⟨pr,hg,hand i g hge hgi h0 hc⟩
end
end Ph
namespace Co
open Conc
variable {P:Program}{E:Env}{f:Fm}
structure Rely(own ro:Nat→Prop)(w w₁:World):Prop where
 size:w.heap.size≤w₁.heap.size
 keep:∀ x,own x∨ro x→x<w.heap.size→w₁.heap[x]? = w.heap[x]?
theorem Rely.refl{own ro:Nat→Prop}(w:World):Rely own ro w w:=⟨Nat.le_refl _,fun _ _ _=>rfl⟩
theorem Rely.trans{own ro:Nat→Prop}{a b c:World}(h:Rely own ro a b)(k:Rely own ro b c):Rely own ro a c :=
 ⟨Nat.le_trans h.size k.size,fun x hx hl=>(k.keep x hx (Nat.lt_of_lt_of_le hl h.size)).trans (h.keep x hx hl)⟩
def EvO(ro own:Nat→Prop)(e:Event):Prop :=
 (∃a:Addr,e.loc=.cell a∧e.sync=false∧(own a.block∨ro a.block∧e.write=false))∨(∃x,e.loc=.obj x∧e.sync=false∧own x)∨e.loc=.mark .noRoom∨∃i,e.loc=.mark (.extern i)
structure Guar(own own' ro:Nat→Prop)(w w':World)(es:Array Event):Prop where
 size:w.heap.size≤w'.heap.size
 keep:∀ x,x<w.heap.size→¬ own x→w'.heap[x]? = w.heap[x]?
 le:∀ x,own x→own' x
 grow:∀ x,own' x→own x∨w.heap.size≤x
 os:w'.os=w.os
 output:w'.output=w.output
 tape:w'.tape=w.tape
 ev:∀ e∈es,EvO ro own' e
 lt:(∀x,own x→x<w.heap.size)→∀ x,own' x→x<w'.heap.size
inductive Rk where
 |leaf
 |node (t:World→Rk)
def Rk.Sub(a b:Rk):Prop:=∃ t w,b=.node t∧a=t w
theorem Rk.wf:WellFounded Rk.Sub:=by
 refine⟨fun a=>?_⟩
 induction a with
 |leaf=>exact⟨_,fun b ⟨t,w,h,_⟩=>by cases h⟩
 |node t ih=>exact⟨_,fun b ⟨t',w,h,e⟩=>by cases h;rw[e];exact ih w⟩
def Ends(P:Program)(main:Bool)(ro:Nat→Prop)(Stop:(Nat→Prop)→Goroutine→World→Prop):Rk→(Nat→Prop)→Goroutine→World→Prop
 |.leaf,own,g,w=>∀ w₁,Rely own ro w w₁→Stop own g w₁
 |.node t,own,g,w=>(∀w₁,Rely own ro w w₁→Stop own g w₁)∨(g.status=.running∧∀ w₁,Rely own ro w w₁→∃ own' g' w' es,stepG P main g w₁=.go g' w' es∧Guar own own' ro w₁ w' es∧Ends P main ro Stop (t w₁) own' g' w')
section
variable {main:Bool}{ro own:Nat→Prop}{Stop:(Nat→Prop)→Goroutine→World→Prop}{g:Goroutine}{w w₁:World}{ρ:Rk}
theorem Ends.rely(h:Ends P main ro Stop ρ own g w)(hr:Rely own ro w w₁):Ends P main ro Stop ρ own g w₁:=by
 cases ρ with
 |leaf=>exact fun w₂ h₂=>h w₂ (hr.trans h₂)
 |node t =>
  rcases h with h|⟨hs,h⟩
  ·exact .inl fun w₂ h₂=>h w₂ (hr.trans h₂)
  ·exact .inr ⟨hs,fun w₂ h₂=>h w₂ (hr.trans h₂)⟩
theorem Ends.step(hs:g.status=.running)(h:∀ w₁,Rely own ro w w₁→∃ ρ own' g' w' es,stepG P main g w₁=.go g' w' es∧Guar own own' ro w₁ w' es∧Ends P main ro Stop ρ own' g' w'):∃ ρ,Ends P main ro Stop ρ own g w:=by
 have:∀ w₁,∃ρ,Rely own ro w w₁→∃ own' g' w' es,stepG P main g w₁=.go g' w' es∧Guar own own' ro w₁ w' es∧Ends P main ro Stop ρ own' g' w':=by
  intro w₁;by_cases hr:Rely own ro w w₁
  ·obtain⟨ρ,hρ⟩:=h w₁ hr;exact⟨ρ,fun _=>hρ⟩
  ·exact⟨.leaf,fun h=>absurd h hr⟩
 obtain⟨t,ht⟩:=Classical.axiomOfChoice this;exact⟨.node t,.inr ⟨hs,ht⟩⟩
theorem Ends.stop(h:∀ w₁,Rely own ro w w₁→Stop own g w₁):∃ ρ,Ends P main ro Stop ρ own g w:=⟨.leaf,h⟩
end
def ownOf(E:Env)(f:Fm)(x:Nat):Prop:=(∃r,f r=some x)∧¬ E.ro x
theorem WR.rely{w w' w₁:World}{τ:Nat→Question→Nat}{d:Nat}(h:WR E f (Co.re w τ d) w')(hr:Rely (ownOf E f) E.ro w' w₁):WR E f (Co.re w w₁.tape w₁.drawn) w₁:=by
 refine⟨rfl,rfl,fun r r' e=>?_,h.inj,h.ice,fun x hx=>h.fresh x (Nat.le_trans hr.size hx),h.glob,h.gl,h.big⟩;obtain⟨o,o',h1,h2,h3⟩:=h.obj r r' e;refine⟨o,o',h1,?_,h3⟩;rw[hr.keep r' ?_ (h.lt e).2]
 ·exact h2
 ·by_cases hro:E.ro r'
  ·exact .inr hro
  ·exact .inl ⟨⟨r,e⟩,hro⟩
theorem Guar.of_foot{g:Fm}{w w':World}{es:Array Event}(h:Foot E.ro f g w w')(he:∀ e∈es,EvS E.ro g e)(hlt:∀ r x,g r=some x→x<w'.heap.size):Guar (ownOf E f) (ownOf E g) E.ro w w' es:=by
 refine⟨h.size,fun x hx hn=>?_,fun x ⟨⟨r,e⟩,hx⟩=>⟨⟨r,h.le _ _ e⟩,hx⟩,fun x ⟨⟨r,e⟩,hx⟩=>?_,h.os,h.output,h.tape,fun e hes=>?_,fun _ x ⟨⟨r,e⟩,_⟩=>hlt r x e⟩
 ·by_cases hro:E.ro x
  ·exact h.ice x hro
  ·exact h.keep x hx fun r e=>hn ⟨⟨r,e⟩,hro⟩
 ·exact(h.grow r x e).imp (fun e=>⟨⟨r,e⟩,hx⟩) id
 ·rcases he e hes with⟨a,h1,h2,h3,h4⟩|⟨x,h1,h2,h3,h4⟩|h1|h1
  ·refine .inl ⟨a,h1,h2,?_⟩;by_cases hro:E.ro a.block
   ·refine .inr ⟨hro,?_⟩
    cases hw:e.write with
    |false=>rfl
    |true=>exact absurd hro (h4 hw)
   ·exact .inl ⟨h3,hro⟩
  ·exact .inr (.inl ⟨x,h1,h2,h3,h4⟩)
  ·exact .inr (.inr (.inl h1))
  ·exact .inr (.inr (.inr h1))
theorem Ends.trans{P:Program}{main:Bool}{ro:Nat→Prop}{S1 S2:(Nat→Prop)→Goroutine→World→Prop}:∀ {ρ:Rk} {own:Nat→Prop} {g:Goroutine} {w:World},Ends P main ro S1 ρ own g w→(∀own g w,S1 own g w→∃ ρ,Ends P main ro S2 ρ own g w)→∃ ρ,Ends P main ro S2 ρ own g w:=by
 intro ρ
 induction ρ with
 |leaf=>exact fun h hk=>hk _ _ _ (h _ (.refl _))
 |node t ih =>
  intro own g w h hk;rcases h with h|⟨hs,h⟩
  ·exact hk _ _ _ (h _ (.refl _))
  ·refine Ends.step hs fun w₁ h₁=>?_;obtain⟨own',g',w',es,k1,k2,k3⟩:=h w₁ h₁;obtain⟨ρ,hρ⟩:=ih w₁ k3 hk;exact⟨ρ,own',g',w',es,k1,k2,hρ⟩
def StopL(P:Program)(E:Env)(Good:Ls→Prop)(K:Option (List Item))(cs:List Frame)(own:Nat→Prop)(g:Goroutine)(w:World):Prop :=
 ∃f s x' xs',Good s∧(∀z∈s.x::s.xs,OkS P E z)∧SR E f (s.x::s.xs) (x'::xs')∧WR E f (Co.re s.w w.tape w.drawn) w∧own=ownOf E f∧g=StK K x' xs' cs
theorem simL(hS:Sound P E){Good:Ls→Prop}{main:Bool}{K:Option (List Item)}{cs:List Frame}{s:Ls}(hT:Tre (StpL P E) Good s):∀ (f:Fm) (x':Fs) (xs':List Fs) (w':World) (τ:Tp) (d:Nat),
 (∀z∈s.x::s.xs,OkS P E z)→SR E f (s.x::s.xs) (x'::xs')→WR E f (Co.re s.w τ d) w'→(K=none∨di (x'::xs'))→∃ ρ,Ends P main E.ro (StopL P E Good K cs) ρ (ownOf E f) (StK K x' xs' cs) w':=by
 induction hT with
 |@good s h =>
  intro f x' xs' w' τ d ok hr hw hK;exact Ends.stop fun w₁ h₁=>⟨f,s,x',xs',h,ok,hr,hw.rely h₁,rfl,rfl⟩
 |@node s nx nn h ht ih =>
  intro f x' xs' w' τ d ok hr hw hK;refine Ends.step rfl fun w₁ h₁=>?_;have hw1:=hw.rely h₁;obtain⟨σ,hσ⟩:∃ σ,σ=aW w₁.drawn w₁.tape:=⟨_,rfl⟩;obtain⟨hx,ok1,w2,es,q1,q2,q3,q4⟩:=h σ
  obtain⟨es2,he2⟩:=q4 w₁.tape w₁.drawn fun i hi=>by rw[hσ];rfl
  have hf:=fine_g (P:=P) (nx σ);obtain⟨⟨g,y,ys,y',ys',w2',es',j1,hr2,ok2,hmk,hst,k3,k4,k5⟩,-⟩:=step_rel hS (main:=true) (main':=main) (cs:=[c0 P]) (cs':=cs) hr ok hx hw1 he2 hf.1 hf.2.1 hf.2.2;obtain⟨i1,i2⟩:=g_inj (s:=nx σ) (s':=⟨y,ys,(nx σ).w⟩) j1
  dsimp only at i1 i2
  obtain⟨ρ,hρ⟩:=ih σ g y' ys' w2' w₁.tape (w₁.drawn+nn σ) (by rw[i1,i2];exact ok2) (by rw[i1,i2];exact hr2) (by rw[q2];exact k3) (hK.imp (fun h=>h) hmk);exact⟨ρ,_,_,_,_,hst K hK,.of_foot k4 k5 (fun _ _ e=>(k3.lt e).2),hρ⟩
def GoodF(P:Program)(R:Value→Array Obj→Prop)(s:Ls):Prop:=s.xs=[]∧s.x.ret=true∧∃ F v τ d,P.funcs[s.x.fn]? = some F∧R v s.w.heap∧(results F s.x.tmps).run P (Co.re s.w τ d)=.ok v (Co.re s.w τ d)
def Handed(E:Env)(R:Value→Array Obj→Prop)(c:Frame)(cs:List Frame)(own:Nat→Prop)(g:Goroutine)(w:World):Prop :=
 ∃f v v' w0,VR E.ok f v v'∧R v w0.heap∧own=ownOf E f∧WR E f w0 w∧g=G (c.finish v') cs
theorem results_still{F:Func}{tmps tmps':Array Value}{w w':World}{v:Value}{τ:Tp}{d:Nat}(ha:AR E.ok f tmps tmps')(hw:WR E f (Co.re w w'.tape w'.drawn) w')(h:(results F tmps).run P (Co.re w τ d)=.ok v (Co.re w τ d)):∀ τ' d',(results F tmps).run P (Co.re w τ' d')=.ok v (Co.re w τ' d'):=by
 intro τ' d';have hw2:WR E f (Co.re w τ d) (Co.re w' τ d):=hw.re τ d;obtain⟨g,v',w2',new,r1,r2,r3,r4,r5,m,q1,q2,q3⟩:=fO (P:=P) (E:=E) F ha f f.le_refl _ _ hw2 v _ h;simp only[eu]at q1;have:=q3 τ' d' fun i hi=>absurd hi (by omega);rwa[show d'+m=d' by omega]at this
theorem sim(hS:Sound P E){R:Value→Array Obj→Prop}{main:Bool}{c:Frame}{cs:List Frame}{s:Ls}(hT:Tre (StpL P E) (GoodF P R) s)(f:Fm)(x':Fs)(xs':List Fs)(w':World)(τ:Tp)(d:Nat)
 (ok:∀ z∈s.x::s.xs,OkS P E z) (hr:SR E f (s.x::s.xs) (x'::xs')) (hw:WR E f (Co.re s.w τ d) w'):∃ ρ,Ends P main E.ro (Handed E R c cs) ρ (ownOf E f) (St x' xs' (c::cs)) w':=by
 obtain⟨ρ,h⟩:=simL hS (main:=main) (K:=none) (cs:=c::cs) hT f x' xs' w' τ d ok hr hw (.inl rfl);rw[stK_none]at h;refine h.trans ?_;rintro own g w ⟨f,s,x',xs',⟨e1,e2,F,v,τ,d,hF,hR,hrun⟩,ok,hr,hw,rfl,rfl⟩;rw[stK_none];refine Ends.step rfl fun w₁ h₁=>?_;have hw1:=hw.rely h₁;obtain⟨⟨a1,a2,a3,ha⟩,hs⟩:=hr.inv;obtain⟨⟨fn,tmps,todo,ret⟩,xs,w⟩:=s;obtain⟨fn',tmps',todo',ret'⟩:=x'
 dsimp only at a1 a2 a3 ha hs e1 e2 hF hR hrun hw1
 subst a1 a2 a3 e1 e2;cases hs;have hw1':WR E f (Co.re w w₁.tape w₁.drawn) w₁:=hw1;have hrun':=results_still ha hw1' hrun w₁.tape w₁.drawn;obtain⟨g,v',w2',new,r1,r2,r3,r4,r5,-⟩:=fO (P:=P) (E:=E) F ha f f.le_refl _ _ hw1' v _ hrun';have hl:=leave_step (main:=main) (todo:=todo) (c:=c) (cs:=cs) hF (r1 #[]);exact⟨.leaf,_,_,_,_,hl,.of_foot r4 (by rw[Array.empty_append];exact mX r5) (fun _ _ e=>(r2.lt e).2),fun w₂ h₂=>⟨g,v,v',Co.re w w₂.tape w₂.drawn,r3,hR,rfl,WR.rely r2 h₂,rfl⟩⟩
theorem tree_call(hS:Sound P E){R:Value→Array Obj→Prop}{i:FuncId}{F:Func}{c:Code}{args:Array Value}{w:World}(hi:E.ok i=true)(hF:P.funcs[i]? = some F)(hb:F.body=some c)(hc:OkCode P E c)
 {f:Fm} {args':Array Value} {w':World} (ha:AR E.ok f args args') (hw:WR E f w w') (h:∀ τ d,Calls P i args (Co.re w τ d) fun e w'=>∃ v,e=.returned v∧R v w'.heap) :
 Tre (StpL P E) (GoodF P R) ⟨⟨i,args++Array.replicate (F.ntmps-args.size) undef,[.code c],false⟩,[],w⟩:=by
 have hsz:args'.size=args.size:=ha.size.symm;refine treeL hS ⟨fun z hz=>?_,f,⟨i,args'++Array.replicate (F.ntmps-args.size) undef,[.code c],false⟩,[],w',.cons ⟨rfl,rfl,rfl,ha.append (AR.flat fun u hu=>by obtain⟨-,rfl⟩:=Array.mem_replicate.1 hu;exact dm)⟩ .nil,hw⟩ fun τ=>?_
 ·obtain rfl:=List.mem_singleton.1 hz;exact⟨.cons hc fun x hx=>by simp at hx,F,hF⟩
 ·obtain⟨e,w2,fr,⟨v,rfl,hR⟩,⟨n,hn⟩,hfn,l1,l2,l3,F2,l4,l5⟩:=h τ 0 [c0 P];refine⟨n,fr,w2,?_,fun c hc=>?_,fun x hx τ' d'=>⟨rfl,?_,F2,v,w2.tape,w2.drawn,?_,hR,?_⟩⟩
  ·rw[enter_at args hF hb]at hn;exact hn
  ·rw[l1]at hc;cases hc
  ·rw[←hx]at l1;obtain⟨fn,tmps,todo,ret⟩:=x
   cases ret with
   |true=>rfl
   |false=>cases l1
  ·rw[←hx]at l4;exact l4
  ·rw[←hx]at l5;exact l5
theorem goal_call(hS:Sound P E){R:Value→Array Obj→Prop}{main:Bool}{fc:Frame}{cs:List Frame}{i:FuncId}{args args':Array Value}{w w':World}{f:Fm}(hi:E.ok i=true)(ha:AR E.ok f args args')(hw:WR E f (Co.re w w'.tape w'.drawn) w')
 (h:∀ τ d,Calls P i args (Co.re w τ d) fun e w'=>∃ v,e=.returned v∧R v w'.heap):∃ ρ,Ends P main E.ro (Handed E R fc cs) ρ (ownOf E f) (G (Frame.enter P i args' .normal) (fc::cs)) w':=by
 obtain⟨F,c,hF,hb,hc⟩:=hS.body i hi;have hT:=tree_call hS hi hF hb hc ha hw h
 have e:G (Frame.enter P i args' .normal) (fc::cs)=St ⟨i,args'++Array.replicate (F.ntmps-args'.size) undef,[.code c],false⟩ [] (fc::cs):=by
  rw[enter_at args' hF hb];rfl
 rw[e];refine sim hS hT f _ _ w' _ _ (fun z hz=>?_) (.cons ⟨rfl,rfl,rfl,?_⟩ .nil) hw
 ·obtain rfl:=List.mem_singleton.1 hz;exact⟨.cons hc fun x hx=>by simp at hx,F,hF⟩
 ·dsimp only
  rw[←ha.size];exact ha.append (AR.flat fun u hu=>by obtain⟨-,rfl⟩:=Array.mem_replicate.1 hu;exact dm)
def GoodP(fn:FuncId)(R:Bool→Array Value→Array Obj→Prop)(s:Ls):Prop:=s.xs=[]∧s.x.fn=fn∧((s.x.ret=false∧s.x.todo=[mkr]∧R false s.x.tmps s.w.heap)∨(s.x.ret=true∧R true s.x.tmps s.w.heap))
def PieceEnd(E:Env)(R:Bool→Array Value→Array Obj→Prop)(fn:FuncId)(k:List Item)(cs:List Frame)(own:Nat→Prop)(g:Goroutine)(w:World):Prop :=
 ∃f t t' w0,AR E.ok f t t'∧own=ownOf E f∧WR E f w0 w∧((R false t w0.heap∧g=G (fr fn t' k .run) cs)∨(R true t w0.heap∧∃ todo,g=G (fr fn t' todo .returning) cs))
theorem goal_piece(hS:Sound P E){R:Bool→Array Value→Array Obj→Prop}{main:Bool}{fn:FuncId}{k:List Item}{cs:List Frame}{tmps tmps':Array Value}{c:Code}{w w':World}{f:Fm}(hF:∃ F,P.funcs[fn]? = some F)(hc:OkCode P E c)(ha:AR E.ok f tmps tmps')(hw:WR E f (Co.re w w'.tape w'.drawn) w')
 (h:∀ τ d,c.wp P (fun|.normal,a,w=>R false a.tmps w.heap|.ret,a,w=>R true a.tmps w.heap|_,_,_=>False) ⟨tmps,[]⟩ (Co.re w τ d)):∃ ρ,Ends P main E.ro (PieceEnd E R fn k cs) ρ (ownOf E f) (G (fr fn tmps' (.code c::k) .run) cs) w':=by
 have okS:∀ z∈[(⟨fn,tmps,[.code c,mkr],false⟩:Fs)],OkS P E z:=fun z hz=>by
  obtain rfl:=List.mem_singleton.1 hz;exact⟨.cons hc (.cons trivial fun x hx=>by simp at hx),hF⟩
 have hT:Tre (StpL P E) (GoodP fn R) ⟨⟨fn,tmps,[.code c,mkr],false⟩,[],w⟩:=by
  refine treeL hS ⟨okS,f,⟨fn,tmps',[.code c,mkr],false⟩,[],Co.re w' w.tape w.drawn,.cons ⟨rfl,rfl,rfl,ha⟩ .nil,hw.re w.tape w.drawn⟩ fun τ=>?_;obtain⟨e,a',w2,hq,har⟩:=h τ 0 (base fn) [mkr] [c0 P]
  cases e with
  |normal =>
   obtain⟨n,hn⟩:=har;refine⟨n,_,w2,hn,(fun c hc=>by cases hc),fun x hx τ' d'=>?_⟩;obtain⟨xf,xt,xk,xr⟩:=x;simp only[Fs.fr,fr,Frame.at,base,Frame.mk.injEq]at hx;obtain⟨rfl,rfl,rfl,-,hm,-⟩:=hx
   cases xr with
   |true=>cases hm
   |false=>exact⟨rfl,rfl,.inl ⟨rfl,rfl,hq⟩⟩
  |ret =>
   obtain⟨todo,n,hn⟩:=har;refine⟨n,_,w2,hn,(fun c hc=>by cases hc),fun x hx τ' d'=>?_⟩;obtain⟨xf,xt,xk,xr⟩:=x;simp only[Fs.fr,fr,Frame.at,base,Frame.mk.injEq]at hx;obtain⟨rfl,rfl,rfl,-,hm,-⟩:=hx
   cases xr with
   |true=>exact⟨rfl,rfl,.inr ⟨rfl,hq⟩⟩
   |false=>cases hm
  |exit id=>exact hq.elim
  |goto l=>exact hq.elim
  |panic ch=>exact hq.elim
  |outgrown=>exact hq.elim
 have hmk:di [(⟨fn,tmps',[.code c,mkr],false⟩:Fs)]:=⟨[.code c],rfl,.inr (Nat.le_refl _)⟩;obtain⟨ρ,hE⟩:=simL hS (main:=main) (K:=some k) (cs:=cs) hT f ⟨fn,tmps',[.code c,mkr],false⟩ [] w' _ _ okS (.cons ⟨rfl,rfl,rfl,ha⟩ .nil) hw (.inr hmk);have e0:StK (some k) ⟨fn,tmps',[.code c,mkr],false⟩ [] cs=G (fr fn tmps' (.code c::k) .run) cs:=rfl;rw[e0]at hE;refine hE.trans ?_;rintro own g w ⟨f,s,x',xs',⟨e1,e2,hs⟩,ok,hr,hw,rfl,rfl⟩;refine Ends.stop fun w₁ h₁=>?_;obtain⟨⟨a1,a2,a3,ha⟩,hs'⟩:=hr.inv;obtain⟨⟨xf,xt,xk,xr⟩,xs,w⟩:=s;obtain⟨yf,yt,yk,yr⟩:=x'
 dsimp only at a1 a2 a3 ha hs' e1 e2 hs hw
 subst a1 a2 a3 e1 e2;cases hs';have hw1:=WR.rely hw h₁;rcases hs with⟨rfl,rfl,hR⟩|⟨rfl,hR⟩
 ·exact⟨f,xt,yt,_,ha,rfl,hw1,.inl ⟨hR,rfl⟩⟩
 ·exact⟨f,xt,yt,_,ha,rfl,hw1,.inr ⟨hR,_,rfl⟩⟩
end Co
namespace Co
open Conc
section
variable {P:Program}{main:Bool}{ro own:Nat→Prop}{Stop:(Nat→Prop)→Goroutine→World→Prop}{g g':Goroutine}{w:World}
abbrev Goal(P:Program)(main:Bool)(ro:Nat→Prop)(Stop:(Nat→Prop)→Goroutine→World→Prop)(own:Nat→Prop)(g:Goroutine)(w:World):Prop:=∃ ρ,Ends P main ro Stop ρ own g w
theorem Guar.idle{own ro:Nat→Prop}{w:World}{es:Array Event}(h:∀ e∈es,EvO ro own e):Guar own own ro w w es:=⟨Nat.le_refl _,fun _ _ _=>rfl,fun _ h=>h,fun _ h=>.inl h,rfl,rfl,rfl,h,id⟩
theorem Goal.rely{w₁:World}(h:Goal P main ro Stop own g w)(hr:Rely own ro w w₁):Goal P main ro Stop own g w₁:=let ⟨ρ,h⟩:=h;⟨ρ,h.rely hr⟩
theorem Goal.still(hs:g.status=.running)(h:∀ w₁,Rely own ro w w₁→∃ es,stepG P main g w₁=.go g' w₁ es∧∀ e∈es,EvO ro own e)(hn:Goal P main ro Stop own g' w):Goal P main ro Stop own g w:=by
 obtain⟨ρ,hn⟩:=hn;refine Ends.step hs fun w₁ h₁=>?_;obtain⟨es,h1,h2⟩:=h w₁ h₁;exact⟨ρ,own,g',w₁,es,h1,.idle h2,hn.rely h₁⟩
theorem Goal.mute(hs:g.status=.running)(h:∀ w₁,stepG P main g w₁=.go g' w₁ #[])(hn:Goal P main ro Stop own g' w):Goal P main ro Stop own g w :=
 Goal.still hs (fun w₁ _=>⟨#[],h w₁,fun e he=>by simp at he⟩) hn
theorem Goal.draw{fn:FuncId}{tmps:Array Value}{id:Nat}{ops:Array Oper}{k:List Item}{cs:List Frame}(hn:∀ t,Goal P main ro Stop own (G (fr fn tmps (.inRegion ops (Region.schedule (P.follows .mixedOrders) ops t)::k) .run) cs) w) :
 Goal P main ro Stop own (G (fr fn tmps (.code (.region id ops true)::k) .run) cs) w:=by
 refine Ends.step rfl fun w₁ h₁=>?_;obtain⟨ρ,hρ⟩:=hn (w₁.tape w₁.drawn (.order fn id));exact⟨ρ,own,_,_,_,je,⟨Nat.le_refl _,fun _ _ _=>rfl,fun _ h=>h,fun _ h=>.inl h,rfl,rfl,rfl,fun e he=>by simp at he,fun hl=>hl⟩,hρ.rely ⟨h₁.size,h₁.keep⟩⟩
def ownAdd(own:Nat→Prop)(b:Nat)(x:Nat):Prop:=own x∨x=b
theorem Goal.value{fn:FuncId}{tmps:Array Value}{ops:Array Oper}{i:Nat}{rest:List Nat}{k:List Item}{cs:List Frame}{o:Oper}{v:Value}(ho:ops[i]? = some o)(hw:Region.wanted o (yielded ops tmps)=true)
 (hr:∀ w₁,Rely own ro w w₁→(execOp (Act.eval ⟨tmps,[]⟩) o).run P w₁=.ok (.value v) w₁) (he:∀ w₁,Rely own ro w w₁→∀ e∈(execOp (Act.eval ⟨tmps,[]⟩) o).events P w₁ #[],EvO ro own e)
 (hn:Goal P main ro Stop own (G (fr fn (Act.put ⟨tmps,[]⟩ o.dst v).tmps (.inRegion ops rest::k) .run) cs) w):Goal P main ro Stop own (G (fr fn tmps (.inRegion ops (i::rest)::k) .run) cs) w:=by
 refine Goal.still rfl (fun w₁ h₁=>?_) hn;have hl:=stepG_value (P:=P) (main:=main) (b:=base fn) (a:=⟨tmps,[]⟩) (k:=k) (cs:=cs) (rest:=rest) ho hw (by simp[base]) (hr w₁ h₁);rw[fr_at _ _ _ (put_defers _)]at hl;exact⟨_,hl,fun e hm=>he w₁ h₁ e (mem_seen hm)⟩
theorem Goal.pure{fn:FuncId}{tmps:Array Value}{ops:Array Oper}{i:Nat}{rest:List Nat}{k:List Item}{cs:List Frame}{o:Oper}(v:Value)(ho:ops[i]? = some o)(hw:Region.wanted o (yielded ops tmps)=true)
 (hr:∀ w₁,(execOp (Act.eval ⟨tmps,[]⟩) o).run P w₁=.ok (.value v) w₁) (he:∀ w₁,∀e∈(execOp (Act.eval ⟨tmps,[]⟩) o).events P w₁ #[],False)
 (hn:Goal P main ro Stop own (G (fr fn (Act.put ⟨tmps,[]⟩ o.dst v).tmps (.inRegion ops rest::k) .run) cs) w):Goal P main ro Stop own (G (fr fn tmps (.inRegion ops (i::rest)::k) .run) cs) w :=
 Goal.value ho hw (fun w₁ _=>hr w₁) (fun w₁ _ e h=>(he w₁ e h).elim) hn
theorem Goal.alloc{fn:FuncId}{tmps:Array Value}{ops:Array Oper}{i:Nat}{rest:List Nat}{k:List Item}{cs:List Frame}{o:Oper}{v:Nat→Value}{x:Obj}(ho:ops[i]? = some o)(hw:Region.wanted o (yielded ops tmps)=true)
 (hr:∀ w₁,Rely own ro w w₁→(execOp (Act.eval ⟨tmps,[]⟩) o).run P w₁=.ok (.value (v w₁.heap.size)) {w₁ with heap:=w₁.heap.push x}) (he:∀ w₁,∀e∈(execOp (Act.eval ⟨tmps,[]⟩) o).events P w₁ #[],False)
 (hn:∀ w₁,Rely own ro w w₁→Goal P main ro Stop (ownAdd own w₁.heap.size) (G (fr fn (Act.put ⟨tmps,[]⟩ o.dst (v w₁.heap.size)).tmps (.inRegion ops rest::k) .run) cs) {w₁ with heap:=w₁.heap.push x}) :
 Goal P main ro Stop own (G (fr fn tmps (.inRegion ops (i::rest)::k) .run) cs) w:=by
 refine Ends.step rfl fun w₁ h₁=>?_;obtain⟨ρ,hρ⟩:=hn w₁ h₁;have hl:=stepG_value (P:=P) (main:=main) (b:=base fn) (a:=⟨tmps,[]⟩) (k:=k) (cs:=cs) (rest:=rest) ho hw (by simp[base]) (hr w₁ h₁);rw[fr_at _ _ _ (put_defers _)]at hl;refine⟨ρ,_,_,_,_,hl,⟨by simp,fun y hy _=>?_,fun y h=>.inl h,fun y h=>?_,rfl,rfl,rfl,fun e hm=>(he w₁ e (mem_seen hm)).elim,fun hl y h=>?_⟩,hρ⟩
 ·simp only[Array.getElem?_push];rw[if_neg (by omega)]
 ·rcases h with h|h
  ·exact .inl h
  ·exact .inr (by omega)
 ·rcases h with h|h
  ·have:=hl y h;simp;omega
  ·simp;omega
theorem Goal.enter{fn:FuncId}{tmps:Array Value}{ops:Array Oper}{i:Nat}{rest:List Nat}{k:List Item}{cs:List Frame}{o:Oper}{j:FuncId}{args:Array Value}{F:Func}{c:Code}(ho:ops[i]? = some o)(hw:Region.wanted o (yielded ops tmps)=true)
 (hF:P.funcs[j]? = some F) (hb:F.body=some c)
 (hr:∀ w₁,(execOp (Act.eval ⟨tmps,[]⟩) o).run P w₁=.ok (.enter j args) w₁) (he:∀ w₁,∀e∈(execOp (Act.eval ⟨tmps,[]⟩) o).events P w₁ #[],False)
 (hn:Goal P main ro Stop own (G (fr j (args++Array.replicate (F.ntmps-args.size) undef) [.code c] .run) (fr fn tmps (.inRegion ops (i::rest)::k) .run::cs)) w):Goal P main ro Stop own (G (fr fn tmps (.inRegion ops (i::rest)::k) .run) cs) w:=by
 refine Goal.still rfl (fun w₁ h₁=>?_) hn;have hl:=stepG_enter (P:=P) (main:=main) (b:=base fn) (a:=⟨tmps,[]⟩) (k:=k) (cs:=cs) (rest:=rest) ho hw (by simp[base]) (hr w₁);rw[enter_at args hF hb]at hl;exact⟨_,hl,fun e hm=>(he w₁ e (mem_seen hm)).elim⟩
theorem Goal.leave{fn fn2:FuncId}{tmps tmps2:Array Value}{todo:List Item}{ops:Array Oper}{i:Nat}{rest:List Nat}{k:List Item}{cs:List Frame}{F:Func}{v:Value}(hF:P.funcs[fn]? = some F)
 (hr:∀ w₁,Rely own ro w w₁→(results F tmps).run P w₁=.ok v w₁) (he:∀ w₁,Rely own ro w w₁→∀ e∈(results F tmps).events P w₁ #[],EvO ro own e)
 (hn:Goal P main ro Stop own (G (fr fn2 (Act.put ⟨tmps2,[]⟩ ((ops[i]?).bind (·.dst)) v).tmps (.inRegion ops rest::k) .run) cs) w) :
 Goal P main ro Stop own (G (fr fn tmps todo .returning) (fr fn2 tmps2 (.inRegion ops (i::rest)::k) .run::cs)) w:=by
 refine Goal.still rfl (fun w₁ h₁=>?_) hn;have hl:=leave_step (P:=P) (main:=main) (todo:=todo) (c:=fr fn2 tmps2 (.inRegion ops (i::rest)::k) .run) (cs:=cs) hF (v:=v) (w:=w₁) (w2:=w₁) (es:=(results F tmps).events P w₁ #[]) (Prod.ext (by rw[Sem.runT_fst];exact hr w₁ h₁) rfl);have:=dW (y:=⟨fn2,tmps2,.inRegion ops (i::rest)::k,false⟩) (v:=v) rfl;rw[show fr fn2 tmps2 (.inRegion ops (i::rest)::k) .run=Fs.fr ⟨fn2,tmps2,.inRegion ops (i::rest)::k,false⟩ from rfl,this]at hl;exact⟨_,hl,fun e hm=>he w₁ h₁ e (mem_seen hm)⟩
def nextG(P:Program)(g:Goroutine):Goroutine:=match stepG P true g default with|.go g' _ _=>g'|_=>g
theorem Goal.calm(hs:g.status=.running)(h:∀ w₁,stepG P main g w₁=.go (nextG P g) w₁ #[])(hn:Goal P main ro Stop own (nextG P g) w):Goal P main ro Stop own g w:=Goal.mute hs h hn
def sL:Code→Code
 |.seq a _=>a
 |c=>c
def sR:Code→Code
 |.seq _ b=>b
 |c=>c
def opsOf:Code→Array Oper
 |.region _ ops _=>ops
 |_=>#[]
end
theorem load_step{P:Program}{a:Addr}{t:TypeId}{v:Value}{w₁:World}(hc:w₁.cell? a=some v){s:Sem Next}
 (hr:s.runT P w₁ #[]=match w₁.cell? a with
  |some v=>(.ok (.value v) w₁,#[⟨.cell a,false,false⟩])
  |none=>(match w₁.farLoad P a false with
   |.ok (v,l)=>(.ok (.value v) w₁,#[]++l.toArray.map (⟨.cell ·,false,false⟩))
   |.error h=>(.halt h w₁,#[]))):s.run P w₁=.ok (.value v) w₁∧s.events P w₁ #[]=#[⟨.cell a,false,false⟩]:=by
 rw[hc]at hr;exact⟨by rw[←Sem.runT_fst P s w₁ #[],hr],by unfold Sem.events;rw[hr]⟩
end Co
namespace Ph
open Conc Co Cl
abbrev KK:Int:=4294967296
abbrev Bl:=Nat→Prop
def noB:Bl:=fun _=>False
structure Cx where
 P:Program
 Y:Lay
 n:Nat
 L:Nat
 nxO:Int→Obj
 wgO:Int→Int→Obj
 pay:Nat→Value→Bl→Prop
 LoopA:Goroutine→World→Prop
 LoadA:Goroutine→World→Prop
 SpA:Nat→Bl→Goroutine→World→Prop
 RecA:List Nat→Bl→Bl→Goroutine→World→Prop
 Fin:List Nat→Bl→Bl→Goroutine→World→Prop
 W:World
abbrev Cx.ch(X:Cx):Nat:=X.Y.chb
section
variable (X:Cx)
def put(w:World)(b:Nat)(o:Obj):World:={w with heap:=w.heap.setIfInBounds b o}
def NxAt(w:World)(c:Int):Prop:=w.heap[X.Y.nx]? = some (X.nxO c)
def WgAt(w:World)(st sm:Int):Prop:=w.heap[X.Y.wg]? = some (X.wgO st sm)
def ChAt(w:World)(buf:Array Value)(closed:Bool)(s r:Nat):Prop:=w.heap[X.ch]? = some (.chan X.n buf closed s r false)
structure Live(w:World):Prop where
 nx:∃ c,NxAt X w c
 wg:∃ st sm,WgAt X w st sm
 ch:∃ buf closed s r,ChAt X w buf closed s r
 still:w.os=X.W.os∧w.output=X.W.output
structure RR(own:Bl)(w w₁:World):Prop where
 rel:Rely own X.Y.ro w w₁
 live:Live X w→Live X w₁
theorem RR.refl(own:Bl)(w:World):RR X own w w:=⟨.refl w,id⟩
variable {X} in
theorem RR.trans{own:Bl}{a b c:World}(h:RR X own a b)(k:RR X own b c):RR X own a c:=⟨h.rel.trans k.rel,fun x=>k.live (h.live x)⟩
def dT(_:Array Event):Prop:=True
def dQ(es:Array Event):Prop:=∀ e∈es,(MemAct.ofEvent e).touch? = none
def Run(main:Bool)(D:Array Event→Prop)(Stop:Bl→Goroutine→World→Prop):Rk→Bl→Goroutine→World→Prop
 |.leaf,own,g,w=>∀ w₁,RR X own w w₁→Stop own g w₁
 |.node t,own,g,w=>(∀w₁,RR X own w w₁→Stop own g w₁)∨(g.status=.running∧∀ w₁,RR X own w w₁→Live X w₁→∃ own' g' w' es,stepG X.P main g w₁=.go g' w' es∧Guar own own' X.Y.ro w₁ w' es∧D es∧Run main D Stop (t w₁) own' g' w')
abbrev Gl(main:Bool)(D:Array Event→Prop)(Stop:Bl→Goroutine→World→Prop)(own:Bl)(g:Goroutine)(w:World):Prop:=∃ ρ,Run X main D Stop ρ own g w
variable {X}
variable {main:Bool}{D:Array Event→Prop}{Stop:Bl→Goroutine→World→Prop}{own:Bl}{g g':Goroutine}{w w₁:World}{ρ:Rk}
theorem Run.rely(h:Run X main D Stop ρ own g w)(hr:RR X own w w₁):Run X main D Stop ρ own g w₁:=by
 cases ρ with
 |leaf=>exact fun w₂ h₂=>h w₂ (hr.trans h₂)
 |node t =>
  rcases h with h|⟨hs,h⟩
  ·exact .inl fun w₂ h₂=>h w₂ (hr.trans h₂)
  ·exact .inr ⟨hs,fun w₂ h₂=>h w₂ (hr.trans h₂)⟩
theorem Gl.rely(h:Gl X main D Stop own g w)(hr:RR X own w w₁):Gl X main D Stop own g w₁:=let ⟨ρ,h⟩:=h;⟨ρ,h.rely hr⟩
theorem Gl.step(hs:g.status=.running)(h:∀ w₁,RR X own w w₁→Live X w₁→∃ own' g' w' es,stepG X.P main g w₁=.go g' w' es∧Guar own own' X.Y.ro w₁ w' es∧D es∧Gl X main D Stop own' g' w'):Gl X main D Stop own g w:=by
 have:∀ w₁,∃ρ,RR X own w w₁→Live X w₁→∃ own' g' w' es,stepG X.P main g w₁=.go g' w' es∧Guar own own' X.Y.ro w₁ w' es∧D es∧Run X main D Stop ρ own' g' w':=by
  intro w₁;by_cases hr:RR X own w w₁∧Live X w₁
  ·obtain⟨own',g',w',es,h1,h2,hd,ρ,h3⟩:=h w₁ hr.1 hr.2;exact⟨ρ,fun _ _=>⟨own',g',w',es,h1,h2,hd,h3⟩⟩
  ·exact⟨.leaf,fun h k=>absurd ⟨h,k⟩ hr⟩
 obtain⟨t,ht⟩:=Classical.axiomOfChoice this;exact⟨.node t,.inr ⟨hs,ht⟩⟩
theorem Gl.stop(h:∀ w₁,RR X own w w₁→Stop own g w₁):Gl X main D Stop own g w:=⟨.leaf,h⟩
theorem Gl.of_ends{S2:Bl→Goroutine→World→Prop}:∀ {ρ:Rk} {own:Bl} {g:Goroutine} {w:World},Co.Ends X.P main X.Y.ro S2 ρ own g w→(∀own g w,S2 own g w→Gl X main dT Stop own g w)→Gl X main dT Stop own g w:=by
 intro ρ
 induction ρ with
 |leaf=>exact fun h hk=>hk _ _ _ (h _ (.refl _))
 |node t ih =>
  intro own g w h hk;rcases h with h|⟨hs,h⟩
  ·exact hk _ _ _ (h _ (.refl _))
  ·refine Gl.step hs fun w₁ h₁ _=>?_;obtain⟨own',g',w',es,k1,k2,k3⟩:=h w₁ h₁.rel;exact⟨own',g',w',es,k1,k2,trivial,ih w₁ k3 hk⟩
theorem Gl.still(hs:g.status=.running)(h:∀ w₁,RR X own w w₁→Live X w₁→∃ es,stepG X.P main g w₁=.go g' w₁ es∧D es∧∀ e∈es,EvO X.Y.ro own e)(hn:Gl X main D Stop own g' w):Gl X main D Stop own g w :=
 Gl.step hs fun w₁ h₁ hl=>by
  obtain⟨es,h1,hd,h2⟩:=h w₁ h₁ hl;exact⟨own,g',w₁,es,h1,.idle h2,hd,hn.rely h₁⟩
theorem Gl.mute(hD:D #[])(hs:g.status=.running)(h:∀ w₁,stepG X.P main g w₁=.go g' w₁ #[])(hn:Gl X main D Stop own g' w):Gl X main D Stop own g w :=
 Gl.still hs (fun w₁ _ _=>⟨#[],h w₁,hD,fun e he=>by simp at he⟩) hn
variable (X)
def mk(m:Mark):Event:=⟨.mark m,false,true⟩
def stA:Addr:=⟨X.Y.wg,0,none⟩
def smA:Addr:=⟨X.Y.wg,1,none⟩
def EvS(b:Nat)(es:Array Event):Prop:=∀ e∈es,(∃a,e.loc=.cell a∧a.block=b∧e.sync=true)∨e.loc=.mark .noRoom∨∃i,e.loc=.mark (.extern i)
def EvSem(b:Nat)(es:Array Event):Prop:=es=semEvents ⟨b,1,none⟩
def Says(main:Bool)(m:Mark)(Nx:Goroutine→World→Prop)(g:Goroutine)(w:World):Prop:=g.status=.running∧∃ g',stepG X.P main g w=.go g' w #[mk m]∧Nx g' w
def SSem(_:Bl)(g:Goroutine)(w:World):Prop :=
 g.status=.running∧mayWake X.P g=true∧(WgAt X w 0 0→∃ g' es,stepG X.P false g w=.go g' (put w X.Y.wg (X.wgO 0 1)) es∧EvSem X.Y.wg es∧∃ q,QuitsD X.P q 1 g')
def SStore(_:Bl)(g:Goroutine)(w:World):Prop :=
 g.status=.running∧(WgAt X w 1 0→∃ g' es,stepG X.P false g w=.go g' (put w X.Y.wg (X.wgO 0 0)) es∧EvS X.Y.wg es∧Gl X false dQ (SSem X) noB g' (put w X.Y.wg (X.wgO 0 0)))
def SLoad(_:Bl)(g:Goroutine)(w:World):Prop :=
 g.status=.running∧(WgAt X w 1 0→∃ g' es,stepG X.P false g w=.go g' w es∧EvS X.Y.wg es∧Gl X false dQ (SStore X) noB g' w)
def SDec(_:Bl)(g:Goroutine)(w:World):Prop :=
 g.status=.running∧∀ v wt:Nat,wt≤1→v<10→WgAt X w ((v+1)*KK+wt) 0→∃ g' es,stepG X.P false g w=.go g' (put w X.Y.wg (X.wgO (v*KK+wt) 0)) es∧EvS X.Y.wg es ∧
  (v=0∧wt=1→Gl X false dQ (SLoad X) noB g' (put w X.Y.wg (X.wgO (v*KK+wt) 0)))∧(¬(v=0∧wt=1)→∃ q,QuitsD X.P q 1 g')
def SDis(_:Bl)(g:Goroutine)(w:World):Prop:=Says X false .disable (Gl X false dQ (SDec X) noB) g w
def SRel(_:Bl)(g:Goroutine)(w:World):Prop:=Says X false (.releaseMerge (stA X)) (Gl X false dQ (SDis X) noB) g w
def bC(w:World)(D:Bl):Prop:=∀ b,D b→∃ c e fz,w.heap[b]? = some (.cells c e fz)∧∀ u∈c,∃k m,u=.int k m
def After(g:Goroutine)(w:World):Prop:=∀ w₁,RR X noB w w₁→X.LoopA (Conc.served g undef) w₁
def SSend(k:Nat)(own:Bl)(g:Goroutine)(w:World):Prop :=
 g.status=.running∧∃ v z D,X.pay k v D∧(∀b,D b→own b)∧bC w D∧stepG X.P false g w=.comm (Conc.core g) #[scase X.ch v z] true .send w #[]∧After X (Conc.core g) w
def SAdd(_:Bl)(g:Goroutine)(w:World):Prop :=
 g.status=.running∧∀ c:Nat,c<9223372036854775807→NxAt X w c→∃ g' es,stepG X.P false g w=.go g' (put w X.Y.nx (X.nxO (c+1))) es∧EvS X.Y.nx es ∧
  (c<X.L→Gl X false dT (SSend X c) noB g' (put w X.Y.nx (X.nxO (c+1))))∧(X.L≤c→Gl X false dT (SRel X) noB g' (put w X.Y.nx (X.nxO (c+1))))
inductive WS where
 |add|send (k:Nat)|rel|dis|dec|load|store|sem
def wstop:WS→Bl→Goroutine→World→Prop
 |.add=>SAdd X
 |.send k=>SSend X k
 |.rel=>SRel X
 |.dis=>SDis X
 |.dec=>SDec X
 |.load=>SLoad X
 |.store=>SStore X
 |.sem=>SSem X
def CClose(_:Bl)(g:Goroutine)(w:World):Prop :=
 g.status=.running∧mayWake X.P g=true∧∀ buf s r,ChAt X w buf false s r→∃ g' es,stepG X.P false g w=.go g' (put w X.ch (.chan X.n buf true s r false)) es∧es=closeEvents X.ch∧∃ q,QuitsD X.P q 0 g'
def CAcq(_:Bl)(g:Goroutine)(w:World):Prop:=Says X false (.acquire (stA X)) (Gl X false dT (CClose X) noB) g w
def CEnab(_:Bl)(g:Goroutine)(w:World):Prop:=Says X false .enable (Gl X false dT (CAcq X) noB) g w
def CLoad2(_:Bl)(g:Goroutine)(w:World):Prop :=
 g.status=.running∧(WgAt X w 0 0→∃ g' es,stepG X.P false g w=.go g' w es∧EvS X.Y.wg es∧Gl X false dT (CEnab X) noB g' w)
def CSem(_:Bl)(g:Goroutine)(w:World):Prop :=
 g.status=.running∧g.offers=none∧((∃st,WgAt X w st 0)→stepG X.P false g w=.go {g with status:=.blocked} w #[]) ∧
  (WgAt X w 0 1→∃ g' es,stepG X.P false g w=.go g' (put w X.Y.wg (X.wgO 0 0)) es∧EvSem X.Y.wg es∧Gl X false dT (CLoad2 X) noB g' (put w X.Y.wg (X.wgO 0 0)))
def CWr(_:Bl)(g:Goroutine)(w:World):Prop:=Says X false (.write (smA X)) (Gl X false dT (CSem X) noB) g w
def CCas(vs:Nat)(_:Bl)(g:Goroutine)(w:World):Prop :=
 g.status=.running∧∀ v:Nat,v<10→WgAt X w (v*KK) 0 →
  (v=vs→∃ g' es,stepG X.P false g w=.go g' (put w X.Y.wg (X.wgO (v*KK+1) 0)) es∧EvS X.Y.wg es∧Gl X false dT (CWr X) noB g' (put w X.Y.wg (X.wgO (v*KK+1) 0))) ∧
  (v≠vs→∃ g' es,stepG X.P false g w=.go g' w es∧EvS X.Y.wg es∧∀ w₁,RR X noB w w₁→X.LoadA g' w₁)
def CLoad(_:Bl)(g:Goroutine)(w:World):Prop :=
 g.status=.running∧∀ v:Nat,v<10→WgAt X w (v*KK) 0→∃ g' es,stepG X.P false g w=.go g' w es∧EvS X.Y.wg es∧(v=0→Gl X false dT (CEnab X) noB g' w)∧(v≠0→Gl X false dT (CCas X v) noB g' w)
def CDis(_:Bl)(g:Goroutine)(w:World):Prop:=Says X false .disable (Gl X false dT (CLoad X) noB) g w
inductive CS where
 |dis|load|cas (v:Nat)|wr|sem|load2|enab|acq|close
def cstop:CS→Bl→Goroutine→World→Prop
 |.dis=>CDis X
 |.load=>CLoad X
 |.cas v=>CCas X (v+1)
 |.wr=>CWr X
 |.sem=>CSem X
 |.load2=>CLoad2 X
 |.enab=>CEnab X
 |.acq=>CAcq X
 |.close=>CClose X
def MRecv(R:List Nat)(dt own:Bl)(g:Goroutine)(w:World):Prop :=
 g.status=.running∧∃ z,stepG X.P true g w=.comm (Conc.core g) #[rcase X.ch z] true (.recv true) w #[] ∧
  (∀k v D w₁,RR X own w w₁→X.pay k v D→k<X.L→X.RecA (k::R) (fun b=>dt b∨D b) own (Conc.served (Conc.core g) (recvd true v true)) w₁)∧(∀w₁,RR X own w w₁→X.Fin R dt own (Conc.served (Conc.core g) (recvd true z false)) w₁)
def MGoc(own:Bl)(g:Goroutine)(w:World):Prop :=
 g.status=.running∧∃ g' child,stepG X.P true g w=.spawn g' child w #[]∧child.status=.running∧Gl X false dT (CDis X) noB child w∧∀ w₁,RR X own w w₁→X.RecA [] noB own g' w₁
def MGo(i:Nat)(own:Bl)(g:Goroutine)(w:World):Prop :=
 g.status=.running∧∃ g' child,stepG X.P true g w=.spawn g' child w #[]∧child.status=.running∧(∀w₁,RR X noB w w₁→Gl X false dT (SAdd X) noB child w₁)∧∀ w₁,RR X own w w₁→X.SpA (i+1) own g' w₁
def MEnab(i:Nat)(own:Bl)(g:Goroutine)(w:World):Prop:=Says X true .enable (Gl X true dT (MGo X i) own) g w
def MRd(i:Nat)(own:Bl)(g:Goroutine)(w:World):Prop:=Says X true (.read (smA X)) (Gl X true dT (MEnab X i) own) g w
def MAdd(i:Nat)(own:Bl)(g:Goroutine)(w:World):Prop :=
 g.status=.running∧∀ v:Nat,v<10→WgAt X w (v*KK) 0→∃ g' es,stepG X.P true g w=.go g' (put w X.Y.wg (X.wgO ((v+1)*KK) 0)) es∧EvS X.Y.wg es ∧
  (v=0→Gl X true dT (MRd X i) own g' (put w X.Y.wg (X.wgO ((v+1)*KK) 0)))∧(v≠0→Gl X true dT (MEnab X i) own g' (put w X.Y.wg (X.wgO ((v+1)*KK) 0)))
def MDis(i:Nat)(own:Bl)(g:Goroutine)(w:World):Prop:=Says X true .disable (Gl X true dT (MAdd X i) own) g w
inductive MS where
 |dis (i:Nat)|add (i:Nat)|rd (i:Nat)|enab (i:Nat)|go (i:Nat)|goc|recv (R:List Nat) (dt:Bl)
def mstop:MS→Bl→Goroutine→World→Prop
 |.dis i=>MDis X i
 |.add i=>MAdd X i
 |.rd i=>MRd X i
 |.enab i=>MEnab X i
 |.go i=>MGo X i
 |.goc=>MGoc X
 |.recv R dt=>MRecv X R dt
structure Walks:Prop where
 loop:∀ g w,X.LoopA g w→Gl X false dT (SAdd X) noB g w
 load:∀ g w,X.LoadA g w→Gl X false dT (CLoad X) noB g w
 sp:∀ i own g w,i<X.n→X.SpA i own g w→Gl X true dT (MDis X i) own g w
 spn:∀ own g w,X.SpA X.n own g w→Gl X true dT (MGoc X) own g w
 recv:∀ R dt own g w,X.RecA R dt own g w→bC w dt→Gl X true dT (MRecv X R dt) own g w
end
end Ph
namespace Ph
open Conc Co Cl
open Go.ConcN (sumTo upd sumTo_upd upd_ne upd_same RelBy)
inductive St where
 |old|work (s:WS)|clos (s:CS)|main (s:MS)
def natRk:Nat→Rk
 |0=>.leaf
 |n+1=>.node fun _=>natRk n
section
variable (X:Cx)
def stop:St→Bl→Goroutine→World→Prop
 |.old=>fun _ _ _=>False
 |.work s=>wstop X s
 |.clos s=>cstop X s
 |.main s=>mstop X s
def jw:St→Nat
 |.work .dec|.work .load|.work .store|.work .sem=>1
 |.clos .load|.clos (.cas _)|.clos .wr|.clos .sem|.clos .load2|.clos .enab=>1
 |.main (.add _)|.main (.rd _)|.main (.enab _)=>1
 |_=>0
def dOf:St→Array Event→Prop
 |.work .dis|.work .dec|.work .load|.work .store|.work .sem=>dQ
 |_=>dT
def Blk:St→Bl→Goroutine→World→Prop
 |.work (.send k),own,g,w=>∃ v z D,g=parked (Conc.core g) #[scase X.ch v z] .send∧X.pay k v D∧(∀b,D b→own b)∧bC w D∧After X (Conc.core g) w
 |.main (.recv R dt),own,g,w=>(∃z,g=parked (Conc.core g) #[rcase X.ch z] (.recv true))∧∀ w₁,RR X own w w₁→MRecv X R dt own {g with status:=.running} w₁
 |.clos .sem,own,g,w=>g.status=.blocked∧g.offers=none∧∀ w₁,RR X own w w₁→CSem X own {g with status:=.running} w₁
 |_,_,_,_=>False
def Sit(m:Bool)(s:St)(ρ:Rk)(own:Bl)(d:Nat)(g:Goroutine)(w:World):Prop :=
 match s with
 |.old=>m=false∧∃ q,ρ=natRk q∧QuitsD X.P q d g
 |s=>d=jw s∧(Run X m (dOf s) (stop X s) ρ own g w∨Blk X s own g w)
variable {X}
variable {m:Bool}{s:St}{ρ:Rk}{own:Bl}{d:Nat}{g:Goroutine}{w w₁:World}
theorem bC.rely{D:Bl}(h:bC w D)(hD:∀ b,D b→own b)(hr:RR X own w w₁):bC w₁ D:=fun b hb=>by
 obtain⟨c,e,fz,h1,h2⟩:=h b hb;exact⟨c,e,fz,by rw[hr.rel.keep b (.inl (hD b hb)) (by obtain⟨hl,-⟩:=Array.getElem?_eq_some_iff.1 h1;exact hl)];exact h1,h2⟩
theorem RR.less{own own':Bl}(h:RR X own w w₁)(hl:∀ b,own' b→own b):RR X own' w w₁:=⟨⟨h.rel.size,fun x hx hs=>h.rel.keep x (hx.imp (hl x) id) hs⟩,h.live⟩
theorem After.rely(h:After X g w)(hr:RR X noB w w₁):After X g w₁:=fun w₂ h₂=>h w₂ (hr.trans h₂)
theorem RR.none(h:RR X own w w₁):RR X noB w w₁:=h.less fun _ hb=>hb.elim
theorem Blk.rely(h:Blk X s own g w)(hr:RR X own w w₁):Blk X s own g w₁:=by
 cases s with
 |old=>exact h
 |work s =>
  cases s with
  |send k =>
   obtain⟨v,z,D,h1,h2,h3,h4,h5⟩:=h;exact⟨v,z,D,h1,h2,h3,h4.rely h3 hr,h5.rely hr.none⟩
  |_=>exact h
 |clos s =>
  cases s with
  |sem=>exact⟨h.1,h.2.1,fun w₂ h₂=>h.2.2 w₂ (hr.trans h₂)⟩
  |_=>exact h
 |main s =>
  cases s with
  |recv R dt=>exact⟨h.1,fun w₂ h₂=>h.2 w₂ (hr.trans h₂)⟩
  |_=>exact h
theorem Blk.blocked(h:Blk X s own g w):g.status=.blocked:=by
 cases s with
 |old=>exact h.elim
 |work s =>
  cases s with
  |send k=>obtain⟨v,z,D,h1,-⟩:=h;rw[h1];rfl
  |_=>exact h.elim
 |clos s =>
  cases s with
  |sem=>exact h.1
  |_=>exact h.elim
 |main s =>
  cases s with
  |recv R dt=>obtain⟨⟨z,h1⟩,-⟩:=h;rw[h1];rfl
  |_=>exact h.elim
theorem Sit.rely(h:Sit X m s ρ own d g w)(hr:RR X own w w₁):Sit X m s ρ own d g w₁:=by
 cases s with
 |old=>exact h
 |_=>exact⟨h.1,h.2.imp (·.rely hr) (·.rely hr)⟩
theorem aB(h:stop X s own g w):g.status=.running:=by
 cases s with
 |old=>exact h.elim
 |work s=>cases s<;>exact h.1
 |clos s=>cases s<;>exact h.1
 |main s=>cases s<;>exact h.1
theorem Run.running{D:Array Event→Prop}{Stop:Bl→Goroutine→World→Prop}(hs:∀ own g w,Stop own g w→g.status=.running)(h:Run X m D Stop ρ own g w):g.status=.running:=by
 cases ρ with
 |leaf=>exact hs _ _ _ (h w (.refl _ _ _))
 |node t=>exact h.elim (fun h=>hs _ _ _ (h w (.refl _ _ _))) fun h=>h.1
theorem Sit.status(h:Sit X m s ρ own d g w):g.status=.running∨g.status=.blocked∨g.status=.finished:=by
 cases s with
 |old=>obtain⟨-,q,-,hq⟩:=h;exact hq.status.imp id .inr
 |_=>exact h.2.elim (fun h=>.inl (h.running fun _ _ _ h=>aB h)) fun h=>.inr (.inl h.blocked)
theorem Sit.awake(h:Sit X m s ρ own d g w):awake g:=awake_of (by
 rcases h.status with h|h|h
 ·exact .inl h
 ·exact .inr (.inl h)
 ·exact .inr (.inr h))
theorem Run.at_stop{D:Array Event→Prop}{Stop:Bl→Goroutine→World→Prop}(h:∀ w₁,RR X own w w₁→Stop own g w₁):Run X m D Stop ρ own g w:=by
 cases ρ with
 |leaf=>exact h
 |node t=>exact .inl h
theorem iP(P:Program)(a a':Goroutine)(w':World)(o:Goroutine):woken P a a' w' o=o∨woken P a a' w' o=o.again w':=by
 unfold woken;split
 ·exact .inr rfl
 ·exact .inl rfl
theorem sit_woken{buf:Array Value}{cl:Bool}{s' r:Nat}(h:Sit X m s ρ own d g w)(hc:ChAt X w buf cl s' r)(hns:cl=true→∀ k,s=.work (.send k)→g.status=.running)(a a':Goroutine):Sit X m s ρ own d (woken X.P a a' w g) w:=by
 cases s with
 |old =>
  obtain⟨h0,q,h1,hq⟩:=h;rw[woken_quitsD hq];exact⟨h0,q,h1,hq⟩
 |work s =>
  obtain⟨h0,h|h⟩:=h
  ·rw[woken_run (h.running fun _ _ _ h=>aB h)];exact⟨h0,.inl h⟩
  ·cases s with
   |send k =>
    have hb:=h.blocked;obtain⟨v,z,D,h1,h2⟩:=h
    cases cl with
    |true=>have:=hns rfl k rfl;rw[hb]at this;cases this
    |false =>
     rcases iP X.P a a' w g with e|e
     ·rw[e];exact⟨h0,.inr ⟨v,z,D,h1,h2⟩⟩
     ·have:g.again w=g:=by
       rw[h1];exact again_send_open hc
      rw[e,this];exact⟨h0,.inr ⟨v,z,D,h1,h2⟩⟩
   |_=>exact h.elim
 |clos s =>
  obtain⟨h0,h|h⟩:=h
  ·rw[woken_run (h.running fun _ _ _ h=>aB h)];exact⟨h0,.inl h⟩
  ·cases s with
   |sem =>
    rcases iP X.P a a' w g with e|e
    ·rw[e];exact⟨h0,.inr h⟩
    ·have:g.again w={g with status:=.running}:=by
      obtain⟨h1,h2,-⟩:=h;unfold Goroutine.again;rw[h1,h2]
     rw[e,this];exact⟨h0,.inl (Run.at_stop h.2.2)⟩
   |_=>exact h.elim
 |main s =>
  obtain⟨h0,h|h⟩:=h
  ·rw[woken_run (h.running fun _ _ _ h=>aB h)];exact⟨h0,.inl h⟩
  ·cases s with
   |recv R dt =>
    rcases iP X.P a a' w g with e|e
    ·rw[e];exact⟨h0,.inr h⟩
    ·obtain⟨⟨z,h1⟩,h2⟩:=h
     cases cl with
     |false =>
      have:g.again w=g:=by
       rw[h1];exact again_recv_open hc
      rw[e,this];exact⟨h0,.inr ⟨⟨z,h1⟩,h2⟩⟩
     |true =>
      have:g.again w={g with status:=.running}:=by
       rw[h1];exact again_recv_closed hc
      rw[e,this];exact⟨h0,.inl (Run.at_stop h2)⟩
   |_=>exact h.elim
theorem wakes_main{buf:Array Value}{s' r:Nat}{R:List Nat}{dt:Bl}{a a':Goroutine}(h:Sit X m (.main (.recv R dt)) ρ own d g w)(hc:ChAt X w buf true s' r)(hm:mayWake X.P a=true)(ha:a'.status=.running∨a'.status=.finished):(woken X.P a a' w g).status=.running:=by
 have hw:(mayWake X.P a&&a'.status != .blocked&&a'.status != .waiting)=true:=by
  rw[hm]
  rcases ha with h|h<;>rw[h]<;>rfl
 obtain⟨h0,h|h⟩:=h
 ·rw[woken_run (h.running fun _ _ _ h=>aB (s:=.main (.recv R dt)) h)];exact h.running fun _ _ _ h=>aB (s:=.main (.recv R dt)) h
 ·obtain⟨⟨z,h1⟩,-⟩:=h;unfold woken;rw[if_pos hw,h1];rw[again_recv_closed hc]
theorem wakes_closer{a a':Goroutine}(h:Sit X m (.clos .sem) ρ own d g w)(hm:mayWake X.P a=true)(ha:a'.status=.running∨a'.status=.finished):(woken X.P a a' w g).status=.running:=by
 have hw:(mayWake X.P a&&a'.status != .blocked&&a'.status != .waiting)=true:=by
  rw[hm]
  rcases ha with h|h<;>rw[h]<;>rfl
 obtain⟨h0,h|h⟩:=h
 ·rw[woken_run (h.running fun _ _ _ h=>aB (s:=.clos .sem) h)];exact h.running fun _ _ _ h=>aB (s:=.clos .sem) h
 ·obtain⟨h1,h2,-⟩:=h;unfold woken;rw[if_pos hw];unfold Goroutine.again;rw[h1,h2]
end
end Ph
