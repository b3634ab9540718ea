/- Texts of this seat,put together: PhCore,PhProto,PhStep,PhMoves,PhWork,PhWork2,PhSend. -/
import Derived.Test.YtlaipigilikmbaaGreatDoorMb7
import Derived.Conc.CrowdCom2
namespace Go.Proofs.YtlaipigilikmbaaGreatDoor
noncomputable section
set_option linter.unusedVariables false
set_option linter.unusedSimpArgs false
namespace Ph
open Conc Co Cl
open Go.ConcN (sumTo upd sumTo_upd upd_ne upd_same RelBy)
structure Gh where
 st:Nat→St
 rk:Nat→Rk
 own:Nat→Bl
 ev:Nat→Bl
 data:Bl
def lvOf(k0 n g:Nat):Prop:=g=0∨(k0≤g∧g<n)
def Kind(X:Cx)(k0 i:Nat):St→Prop
 |.main _=>i=0
 |.work _=>k0≤i∧i<X.Y.cl
 |.clos _=>i=X.Y.cl
 |.old=>i≠0
structure Wt(X:Cx)(k0:Nat)(Γ:Gh)(n:Nat)(w:World)(t:Trace):Prop where
 k0p:1≤k0
 k0n:k0≤n
 ncl:n≤X.Y.cl+1
 k0c:k0≤X.Y.cl
 above:∀ i,n≤i→Deaf t i=0
 live:Live X w
 ownlt:∀ i b,Γ.own i b→b<w.heap.size
 ownev:∀ i b,Γ.own i b→Γ.ev i b
 evlt:∀ i b,Γ.ev i b→b<w.heap.size
 evch:∀ i,¬Γ.ev i X.ch
 split:Split X.Y Γ.ev
 data:bC w Γ.data
 dataown:∀ i b,Γ.own i b→¬ Γ.data b
 datash:∀ b,Γ.data b→b≠X.Y.nx∧b≠X.Y.wg∧b≠X.ch
 rolt:∀ b,X.Y.ro b→b<w.heap.size
 roch:¬ X.Y.ro X.ch
 zlt:∀ b,X.Y.Z b→b<w.heap.size
 ti:TI X.Y (lvOf k0 n) Γ.ev t
 low:∀ op∈t,op.act.low w.heap.size
 nrl:NoRelease (stA X) t
 kind:∀ i,i<n→Kind X k0 i (Γ.st i)
def Sits(X:Cx)(Γ:Gh)(gs:Array Goroutine)(w:World)(t:Trace):Prop:=∀ i g,gs[i]? = some g→Sit X (i==0) (Γ.st i) (Γ.rk i) (Γ.own i) (Deaf t i) g w
structure EvOk(X:Cx)(ev:Nat→Bl)(cls:Prop)(i B:Nat)(e:Event):Prop where
 touch:∀ x,(MemAct.ofEvent e).touch? = some x→Allow X.Y ev i x∧(x.kind=.said→i=0→¬ cls)
 low:(MemAct.ofEvent e).low B
 rel:e.loc≠.mark (.release (stA X))
section
variable {X:Cx}{k0 n:Nat}{Γ:Gh}{gs:Array Goroutine}{w w':World}{t:Trace}{i:Nat}{g g':Goroutine}{es:Array Event}{fn:FuncId}{pos:String}
def Gh.set(Γ:Gh)(i:Nat)(s:St)(ρ:Rk)(own:Bl):Gh:={st:=upd Γ.st i s,rk:=upd Γ.rk i ρ,own:=upd Γ.own i own,ev:=upd Γ.ev i (fun b=>Γ.ev i b∨own b),data:=Γ.data}
structure Turn(X:Cx)(Γ:Gh)(i:Nat)(own':Bl)(w w':World):Prop where
 size:w.heap.size≤w'.heap.size
 keep:∀ x,x<w.heap.size→¬ Γ.own i x→x≠X.Y.nx→x≠X.Y.wg→x≠X.ch→w'.heap[x]? = w.heap[x]?
 live:Live X w'
 lt:∀ b,own' b→b<w'.heap.size
 grow:∀ b,own' b→Γ.own i b∨w.heap.size≤b
theorem dM{u:Trace}{a:Addr}(h:NoRelease a t)(hu:∀ op∈u,op.act≠.mark (.release a)):NoRelease a (t++u):=fun k e=>by
 obtain⟨op,ho,hoa⟩:=Option.map_eq_some_iff.1 e;rcases getElem?_append_cases ho with⟨_,h1⟩|⟨_,h1⟩
 ·exact h k (by rw[Trace.act?,h1];exact congrArg some hoa)
 ·exact hu op h1 hoa
theorem Wt.live_lt(h:Wt X k0 Γ n w t):X.Y.nx<w.heap.size∧X.Y.wg<w.heap.size∧X.ch<w.heap.size:=by
 obtain⟨⟨c,h1⟩,⟨a,b,h2⟩,⟨p,q,r,s,h3⟩,-⟩:=h.live;exact⟨(Array.getElem?_eq_some_iff.1 h1).1,(Array.getElem?_eq_some_iff.1 h2).1,(Array.getElem?_eq_some_iff.1 h3).1⟩
theorem Wt.rr(h:Wt X k0 Γ n w t){own':Bl}(T:Turn X Γ i own' w w'){j:Nat}(hj:j≠i):RR X (Γ.own j) w w':=by
 refine⟨⟨T.size,fun x hx hs=>T.keep x hs (fun ho=>?_) ?_ ?_ ?_⟩,fun _=>T.live⟩
 ·rcases hx with hx|hx
  ·exact hj (h.split.own _ _ x (h.ownev _ _ hx) (h.ownev _ _ ho))
  ·exact h.split.ownRo _ _ (h.ownev _ _ ho) hx
 ·rintro rfl;rcases hx with hx|hx
  ·exact h.split.ownNx _ (h.ownev _ _ hx)
  ·exact h.split.roNx hx
 ·rintro rfl;rcases hx with hx|hx
  ·exact h.split.ownWg _ (h.ownev _ _ hx)
  ·exact h.split.roWg hx
 ·rintro rfl;rcases hx with hx|hx
  ·exact h.evch _ (h.ownev _ _ hx)
  ·exact h.roch hx
theorem Wt.dataOk(h:Wt X k0 Γ n w t){own':Bl}(T:Turn X Γ i own' w w'):bC w' Γ.data:=fun b hb=>by
 obtain⟨c,e,fz,h1,h2⟩:=h.data b hb;have hs:=h.datash b hb;exact⟨c,e,fz,by rw[T.keep b (Array.getElem?_eq_some_iff.1 h1).1 (fun ho=>h.dataown _ _ ho hb) hs.1 hs.2.1 hs.2.2];exact h1,h2⟩
theorem split_set(h:Wt X k0 Γ n w t){own':Bl}(hg:∀ b,own' b→Γ.own i b∨w.heap.size≤b):Split X.Y (upd Γ.ev i fun b=>Γ.ev i b∨own' b):=by
 obtain⟨l1,l2,l3⟩:=h.live_lt
 have key:∀ j b,upd Γ.ev i (fun b=>Γ.ev i b∨own' b) j b→Γ.ev j b∨(j=i∧w.heap.size≤b):=by
  intro j b hb;by_cases hji:j=i
  ·subst hji;rw[upd_same]at hb;rcases hb with hb|hb
   ·exact .inl hb
   ·exact(hg b hb).imp (h.ownev _ _) fun h=>⟨rfl,h⟩
  ·rw[upd_ne _ _ hji]at hb;exact .inl hb
 refine⟨fun a b x h1 h2=>?_,fun a b h1 h2=>?_,fun a h1=>?_,fun a h1=>?_,fun a h1=>?_,h.split.roNx,h.split.roWg,fun a b h1=>?_,h.split.roZ,h.split.cl0⟩
 ·rcases key _ _ h1 with h1|⟨h1,h3⟩<;>rcases key _ _ h2 with h2|⟨h2,h4⟩
  ·exact h.split.own _ _ _ h1 h2
  ·have:=h.evlt _ _ h1;omega
  ·have:=h.evlt _ _ h2;omega
  ·rw[h1,h2]
 ·rcases key _ _ h1 with h1|⟨h1,h3⟩
  ·exact h.split.ownRo _ _ h1 h2
  ·have:=h.rolt _ h2;omega
 ·rcases key _ _ h1 with h1|⟨h1,h3⟩
  ·exact h.split.ownNx _ h1
  ·omega
 ·rcases key _ _ h1 with h1|⟨h1,h3⟩
  ·exact h.split.ownWg _ h1
  ·omega
 ·rcases key _ _ h1 with h1|⟨h1,h3⟩
  ·exact h.split.ownCh _ h1
  ·have l4:X.Y.chb<w.heap.size:=l3;omega
 ·rcases key _ _ h1 with h1|⟨h1,h3⟩
  ·exact h.split.ownZ _ _ h1
  ·intro hz;have:=h.zlt _ hz;omega
theorem Wt.app(h:Wt X k0 Γ n w t)(hin:i<n)(hlv:lvOf k0 n i∨∀e∈es,(MemAct.ofEvent e).touch? = none){st':St}{ρ':Rk}{own':Bl}(T:Turn X Γ i own' w w')(hk:Kind X k0 i st')
 (hes:∀ e∈es,EvOk X (Γ.set i st' ρ' own').ev (lvOf k0 n X.Y.cl) i w'.heap.size e):Wt X k0 (Γ.set i st' ρ' own') n w' (t++MemOp.ofEvents i fn pos es):=by
 have hsp:=split_set h T.grow
 have hev:∀ j b,Γ.ev j b→(Γ.set i st' ρ' own').ev j b:=fun j b hb=>by
  show upd Γ.ev i _ j b;by_cases hji:j=i
  ·subst hji;rw[upd_same];exact .inl hb
  ·rw[upd_ne _ _ hji];exact hb
 refine⟨h.k0p,h.k0n,h.ncl,h.k0c,fun j hj=>?_,T.live,fun j b hb=>?_,fun j b hb=>?_,fun j b hb=>?_,fun j hb=>?_,hsp,h.dataOk T,fun j b hb=>?_,h.datash,fun b hb=>Nat.lt_of_lt_of_le (h.rolt b hb) T.size,h.roch,fun b hb=>Nat.lt_of_lt_of_le (h.zlt b hb) T.size,?_,?_,?_,fun j hj=>?_⟩
 ·rw[Deaf_other t (g':=i) (by omega) _ (fun op hop=>by obtain⟨e,_,rfl⟩:=Go.Conc.mem_ofEvents hop;rfl)];exact h.above j hj
 ·change upd Γ.own i own' j b at hb
  by_cases hji:j=i
  ·subst hji;rw[upd_same]at hb;exact T.lt b hb
  ·rw[upd_ne _ _ hji]at hb;exact Nat.lt_of_lt_of_le (h.ownlt j b hb) T.size
 ·change upd Γ.own i own' j b at hb
  show upd Γ.ev i _ j b;by_cases hji:j=i
  ·subst hji;rw[upd_same]at hb⊢;exact .inr hb
  ·rw[upd_ne _ _ hji]at hb⊢;exact h.ownev j b hb
 ·change upd Γ.ev i _ j b at hb
  by_cases hji:j=i
  ·subst hji;rw[upd_same]at hb;rcases hb with hb|hb
   ·exact Nat.lt_of_lt_of_le (h.evlt _ b hb) T.size
   ·exact T.lt b hb
  ·rw[upd_ne _ _ hji]at hb;exact Nat.lt_of_lt_of_le (h.evlt j b hb) T.size
 ·change upd Γ.ev i _ j X.ch at hb
  by_cases hji:j=i
  ·subst hji;rw[upd_same]at hb;rcases hb with hb|hb
   ·exact h.evch _ hb
   ·rcases T.grow _ hb with hb|hb
    ·exact h.evch _ (h.ownev _ _ hb)
    ·have:=h.live_lt.2.2;omega
  ·rw[upd_ne _ _ hji]at hb;exact h.evch j hb
 ·change upd Γ.own i own' j b at hb
  by_cases hji:j=i
  ·subst hji;rw[upd_same]at hb;rcases T.grow _ hb with hb|hb
   ·exact h.dataown _ _ hb
   ·intro hd;obtain⟨c,e,fz,h1,h2⟩:=h.data b hd;have:=(Array.getElem?_eq_some_iff.1 h1).1;omega
  ·rw[upd_ne _ _ hji]at hb;exact h.dataown j b hb
 ·rcases hlv with hlv|hlv
  case inr=>exact(h.ti.mute (fun op hop=>by obtain⟨e,_,rfl⟩:=Go.Conc.mem_ofEvents hop;rfl) fun op hop=>by obtain⟨e,he,rfl⟩:=Go.Conc.mem_ofEvents hop;exact hlv e he).grow hev
  refine h.ti.app hsp hev hlv (fun op hop=>by obtain⟨e,_,rfl⟩:=Go.Conc.mem_ofEvents hop;rfl) (fun op hop x hx=>?_) fun op hop x hx hk h0=>?_
  ·obtain⟨e,he,rfl⟩:=Go.Conc.mem_ofEvents hop;exact((hes e he).touch x hx).1
  ·obtain⟨e,he,rfl⟩:=Go.Conc.mem_ofEvents hop;exact((hes e he).touch x hx).2 hk h0
 ·intro op hop;rcases Array.mem_append.1 hop with hop|hop
  ·exact MemAct.low_mono T.size (h.low op hop)
  ·obtain⟨e,he,rfl⟩:=Go.Conc.mem_ofEvents hop;exact(hes e he).low
 ·refine dM h.nrl fun op hop e=>?_;obtain⟨x,hx,rfl⟩:=Go.Conc.mem_ofEvents hop;exact(hes x hx).rel (Go.ConcR.loc_of_ofEvent e)
 ·show Kind X k0 j (upd Γ.st i st' j);by_cases hji:j=i
  ·subst hji;rw[upd_same];exact hk
  ·rw[upd_ne _ _ hji];exact h.kind j hj
theorem Sits.go(h:Sits X Γ gs w t)(H:Wt X k0 Γ gs.size w t){st':St}{ρ':Rk}{own':Bl}(T:Turn X Γ i own' w w')(hi:i<gs.size){a:Goroutine}(hs:Sit X (i==0) st' ρ' own' (deafBehind (Deaf t i) es) g' w')
 (hcl:∀ buf s r,ChAt X w' buf true s r→∀ j k,j<gs.size→j≠i→Γ.st j≠.work (.send k)):Sits X (Γ.set i st' ρ' own') ((gs.map (woken X.P a g' w')).setIfInBounds i g') w' (t++MemOp.ofEvents i fn pos es):=by
 intro j x hx;by_cases hji:i=j
 ·subst hji;rw[Array.getElem?_setIfInBounds_self_of_lt (by simpa using hi)]at hx;obtain rfl:=Option.some.inj hx;simp only[Gh.set,upd_same,Deaf_own];exact hs
 ·rw[Array.getElem?_setIfInBounds_ne hji,Array.getElem?_map]at hx;obtain⟨y,hy,rfl⟩:=Option.map_eq_some_iff.1 hx;have hj:=(h j y hy).rely (H.rr T (Ne.symm hji));simp only[Gh.set,upd_ne _ _ (Ne.symm hji)];rw[Deaf_other t (g':=i) hji _ (fun op hop=>by obtain⟨e,_,rfl⟩:=Go.Conc.mem_ofEvents hop;rfl)];obtain⟨buf,cl,s,r,hch⟩:=T.live.ch;exact sit_woken hj hch (fun e k hk=>absurd hk (hcl buf s r (e▸hch) j k (Array.getElem?_eq_some_iff.1 hy).1 (Ne.symm hji))) a g'
theorem TI.mutes{Y:Lay}{lv:Nat→Prop}{ev:Nat→Bl}:∀ (l:List MemOp) {t:Trace},TI Y lv ev t→(∀op∈l,op.act.touch? = none)→TI Y lv ev (t++l.toArray)
 |[],t,h,_=>by simpa using h
 |x::l,t,h,hn=>by
  have e:t++(x::l).toArray=(t++#[x])++l.toArray:=by apply Array.ext';simp
  rw[e];exact TI.mutes l (h.mute (g:=x.g) (fun op hop=>by simp at hop;rw[hop]) fun op hop=>by simp at hop;rw[hop];exact hn x (by simp)) fun op hop=>hn op (by simp[hop])
structure Hand(X:Cx)(B:Nat)(op:MemOp):Prop where
 touch:op.act.touch? = none
 dis:op.act≠.mark .disable
 ena:op.act≠.mark .enable
 low:op.act.low B
 rel:op.act≠.mark (.release (stA X))
theorem eX{B:Nat}{u:Trace}(hu:∀ op∈u,Hand X B op)(j:Nat):Deaf (t++u) j=Deaf t j:=Go.ConcN.Deaf_still t j u fun op hop=>⟨(hu op hop).dis,(hu op hop).ena⟩
theorem bC.keep{D:Bl}(h:bC w D)(hk:∀ b,D b→w'.heap[b]? = w.heap[b]?):bC w' D:=fun b hb=>by
 obtain⟨c,e,fz,h1,h2⟩:=h b hb;exact⟨c,e,fz,by rw[hk b hb];exact h1,h2⟩
theorem bC.or{D E:Bl}(h:bC w D)(k:bC w E):bC w fun b=>D b∨E b:=fun b hb=>hb.elim (h b) (k b)
structure Chan1(X:Cx)(w w':World):Prop where
 size:w'.heap.size=w.heap.size
 keep:∀ x,x≠X.ch→w'.heap[x]? = w.heap[x]?
 live:Live X w'
theorem Wt.comm(h:Wt X k0 Γ n w t){Γ':Gh}{u:Trace}(hu:∀ op∈u,Hand X w.heap.size op)(C:Chan1 X w w')(hown:∀ j b,Γ'.own j b→Γ.own j b)(hev:Γ'.ev=Γ.ev)
 (hdata:bC w Γ'.data) (hdo:∀ j b,Γ'.own j b→¬ Γ'.data b) (hds:∀ b,Γ'.data b→b≠X.Y.nx∧b≠X.Y.wg∧b≠X.ch) (hk:∀ j,j<n→Kind X k0 j (Γ'.st j)):Wt X k0 Γ' n w' (t++u):=by
 refine⟨h.k0p,h.k0n,h.ncl,h.k0c,fun j hj=>?_,C.live,fun j b hb=>?_,fun j b hb=>?_,fun j b hb=>?_,fun j=>?_,?_,hdata.keep fun b hb=>C.keep b (hds b hb).2.2,hdo,hds,fun b hb=>?_,h.roch,fun b hb=>?_,?_,?_,?_,hk⟩
 ·rw[eX hu];exact h.above j hj
 ·rw[C.size];exact h.ownlt j b (hown j b hb)
 ·rw[hev];exact h.ownev j b (hown j b hb)
 ·rw[C.size];rw[hev]at hb;exact h.evlt j b hb
 ·rw[hev];exact h.evch j
 ·rw[hev];exact h.split
 ·rw[C.size];exact h.rolt b hb
 ·rw[C.size];exact h.zlt b hb
 ·rw[hev];have:=TI.mutes u.toList h.ti fun op hop=>(hu op (by simpa using hop)).touch;simpa using this
 ·intro op hop;rw[C.size];rcases Array.mem_append.1 hop with hop|hop
  ·exact h.low op hop
  ·exact(hu op hop).low
 ·exact dM h.nrl fun op hop=>(hu op hop).rel
theorem Chan1.rr(C:Chan1 X w w'){own:Bl}(h1:¬ own X.ch)(h2:¬ X.Y.ro X.ch):RR X own w w' :=
 ⟨⟨Nat.le_of_eq C.size.symm,fun x hx _=>C.keep x (by rintro rfl;exact hx.elim h1 h2)⟩,fun _=>C.live⟩
theorem Wt.rrc(h:Wt X k0 Γ n w t)(C:Chan1 X w w')(j:Nat):RR X (Γ.own j) w w':=C.rr (fun ho=>h.evch j (h.ownev j _ ho)) h.roch
theorem Wt.spawn(h:Wt X k0 Γ n w t){Γ':Gh}{x y:MemOp}(hx:x.g=0∧x.act=.go n)(hy:y.g=n∧y.act=.start)(hd:Deaf t 0=0)(hn:n≤X.Y.cl)(hown:∀ j b,Γ'.own j b→Γ.own j b)(hev:Γ'.ev=Γ.ev)(hdata:Γ'.data=Γ.data)(hk:∀ j,j<n+1→Kind X k0 j (Γ'.st j)) :
 Wt X k0 Γ' (n+1) w (t++#[x,y]):=by
 have hu:∀ op∈#[x,y],Hand X w.heap.size op:=by
  intro op hop;simp only[List.mem_toArray,List.mem_cons,List.not_mem_nil,or_false]at hop;rcases hop with rfl|rfl
  ·exact⟨by rw[hx.2];rfl,by rw[hx.2];simp,by rw[hx.2];simp,by rw[hx.2];trivial,by rw[hx.2];simp⟩
  ·exact⟨by rw[hy.2];rfl,by rw[hy.2];simp,by rw[hy.2];simp,by rw[hy.2];trivial,by rw[hy.2];simp⟩
 have hkn:Deaf t n=0:=h.above n (Nat.le_refl _);refine⟨h.k0p,by have:=h.k0n;omega,by omega,h.k0c,fun j hj=>?_,h.live,fun j b hb=>h.ownlt j b (hown j b hb),fun j b hb=>?_,fun j b hb=>?_,fun j=>?_,?_,?_,fun j b hb=>?_,?_,h.rolt,h.roch,h.zlt,?_,?_,dM h.nrl fun op hop=>(hu op hop).rel,hk⟩
 ·rw[eX hu];exact h.above j (by omega)
 ·rw[hev];exact h.ownev j b (hown j b hb)
 ·rw[hev]at hb;exact h.evlt j b hb
 ·rw[hev];exact h.evch j
 ·rw[hev];exact h.split
 ·rw[hdata];exact h.data
 ·rw[hdata];exact h.dataown j b (hown j b hb)
 ·rw[hdata];exact h.datash
 ·rw[hev];have:=h.ti.fork (.inl rfl) hx hy hd hkn
  have e:(fun g=>lvOf k0 n g∨g=n)=lvOf k0 (n+1):=by
   funext g
   apply propext
   have:=h.k0n;unfold lvOf;omega
  rw[←e];exact this
 ·intro op hop;rcases Array.mem_append.1 hop with hop|hop
  ·exact h.low op hop
  ·exact(hu op hop).low
end
end Ph
namespace Ph
open Conc Co Cl
open Go.ConcN (sumTo upd sumTo_upd upd_ne upd_same RelBy)
def cntW:St→Nat
 |.work .add|.work (.send _)|.work .rel|.work .dis|.work .dec=>1
 |.main (.rd _)|.main (.enab _)|.main (.go _)=>1
 |_=>0
def lastW:St→Nat
 |.work .load|.work .store=>1
 |_=>0
def lsemW:St→Nat
 |.work .sem=>1
 |_=>0
def actW:St→Nat
 |.work .add|.work (.send _)=>1
 |_=>0
def inflW(k:Nat):St→Nat
 |.work (.send j)=>if j=k then 1 else 0
 |_=>0
def relW:St→Bool
 |.work .dis|.work .dec|.work .load|.work .store|.work .sem|.old=>true
 |_=>false
inductive CK where
 |before|wait|after
def ckS:St→CK
 |.clos .dis|.clos .load|.clos (.cas _)=>.before
 |.clos .wr|.clos .sem=>.wait
 |_=>.after
def ckOf(cl n:Nat)(st:Nat→St):CK:=if n≤cl then .before else ckS (st cl)
inductive Mode (v last lsem:Nat):CK→Int→Int→Prop
 |opn (h1:last=0) (h2:lsem=0):Mode v last lsem .before (v*KK) 0
 |reg (h0:1≤v) (h1:last=0) (h2:lsem=0):Mode v last lsem .wait (v*KK+1) 0
 |lst (h0:v=0) (h1:last=1) (h2:lsem=0):Mode v last lsem .wait 1 0
 |sem (h0:v=0) (h1:last=0) (h2:lsem=1):Mode v last lsem .wait 0 0
 |up (h0:v=0) (h1:last=0) (h2:lsem=0):Mode v last lsem .wait 0 1
 |done (h0:v=0) (h1:last=0) (h2:lsem=0):Mode v last lsem .after 0 0
def gotOf:St→List Nat
 |.main (.recv R _)=>R
 |_=>[]
structure Buf(X:Cx)(dt:Bl)(buf:Array Value)(B:List Nat):Prop where
 size:buf.size=B.length
 pay:∀ (j:Nat) v k,buf[j]? = some v→B[j]? = some k→∃ D,X.pay k v D∧∀ b,D b→dt b
 lt:∀ k∈B,k<X.L
def MStage(X:Cx)(k0 n:Nat):St→Prop
 |.main (.dis i)|.main (.add i)|.main (.rd i)|.main (.enab i)|.main (.go i)=>n=k0+i∧i<X.n
 |.main .goc=>n=k0+X.n
 |.main (.recv _ _)=>n=k0+X.n+1
 |_=>False
structure Acq(X:Cx)(k0:Nat)(t:Trace)(q:Nat):Prop where
 qa:t.act? q=some (.mark (.acquire (stA X)))
 qg:t.g? q=some X.Y.cl
 qh:t.heard q
 rel:∀ i,k0≤i→i<X.Y.cl→∃ r,RelBy (stA X) t i r∧r<q
structure PA(X:Cx)(k0 n:Nat)(st:Nat→St)(c:Nat)(sv sm:Int)(B:List Nat)(closed:Bool):Prop where
 clk:X.Y.cl=k0+X.n
 cb:c≤X.L∨c+(sumTo n (fun i=>actW (st i))+(X.Y.cl-n))≤X.L+X.n
 mode:Mode (sumTo n fun i=>cntW (st i)) (sumTo n fun i=>lastW (st i)) (sumTo n fun i=>lsemW (st i)) (ckOf X.Y.cl n st) sv sm
 blen:B.length≤X.n
 count:∀ k,k<X.L→(gotOf (st 0)).count k+B.count k+sumTo n (fun i=>inflW k (st i))=if k<c then 1 else 0
 inR:∀ k∈gotOf (st 0),k<X.L
 inS:∀ j k,j<n→st j=.work (.send k)→k<X.L
 stage:MStage X k0 n (st 0)
 cld:closed=true↔X.Y.cl<n∧st X.Y.cl=.old
 cas:∀ vs,X.Y.cl<n→st X.Y.cl=.clos (.cas vs)→(sumTo n fun i=>cntW (st i))≤vs+1
 pas:∀ i,k0≤i→i<X.Y.cl→i<n→actW (st i)=0→X.L≤c
structure PB(X:Cx)(st:Nat→St)(gs:Array Goroutine)(sm:Int)(B:List Nat)(closed:Bool):Prop where
 full:∀ (j:Nat) g k,gs[j]? = some g→st j=.work (.send k)→g.status=.blocked→B.length=X.n
 mblk:∀ g,gs[0]? = some g→g.status=.blocked→B=[]∧closed=false∧∀ (j:Nat) g k,gs[j]? = some g→st j=.work (.send k)→g.status≠.blocked
 cblk:∀ g,gs[X.Y.cl]? = some g→g.status=.blocked→sm=0
structure PT(X:Cx)(k0 n:Nat)(st:Nat→St)(t:Trace)(closed:Bool):Prop where
 rel:∀ i,k0≤i→i<X.Y.cl→i<n→relW (st i)=true→∃ r,RelBy (stA X) t i r
 acq:X.Y.cl<n→st X.Y.cl=.clos .close→∃ q,Acq X k0 t q
 cls:closed=true→∃ q pc,iR X.Y (lvOf k0 n) X.ch t q pc
structure Proto(X:Cx)(k0:Nat)(Γ:Gh)(gs:Array Goroutine)(w:World)(t:Trace)(c:Nat)(sv sm:Int)(B:List Nat)(closed:Bool):Prop where
 pa:PA X k0 gs.size Γ.st c sv sm B closed
 nx:NxAt X w c
 wg:WgAt X w sv sm
 ch:∃ buf s r,ChAt X w buf closed s r∧Buf X Γ.data buf B
 pb:PB X Γ.st gs sm B closed
 pt:PT X k0 gs.size Γ.st t closed
 mdt:∀ R dt,Γ.st 0=.main (.recv R dt)→∀ b,dt b→Γ.data b
inductive LR:List Rk→List Rk→Prop
 |head {a b:Rk} {l:List Rk} (h:Rk.Sub a b):LR (a::l) (b::l)
 |tail {a:Rk} {l l':List Rk} (h:LR l l'):LR (a::l) (a::l')
theorem LR.wf:WellFounded LR:=by
 refine⟨fun l=>?_⟩
 induction l with
 |nil=>exact⟨_,fun y h=>by cases h⟩
 |cons b l ih =>
  have hb:Acc Rk.Sub b:=Rk.wf.apply b
  induction hb generalizing l with
  |intro b _ ihb =>
   induction ih with
   |intro l hl ihl =>
    refine⟨_,fun y hy=>?_⟩
    cases hy with
    |head h=>exact ihb _ h l ⟨_,hl⟩
    |tail h=>exact ihl _ h
theorem LR.upd{f:Nat→Rk}{i:Nat}{a:Rk}(h:Rk.Sub a (f i)):∀ (l:List Nat),l.Nodup→i∈l→LR (l.map (Go.ConcN.upd f i a)) (l.map f)
 |[],_,hm=>by cases hm
 |x::l,hn,hm=>by
  rw[List.nodup_cons]at hn;simp only[List.map_cons];by_cases hx:x=i
  ·subst hx
   have:l.map (Go.ConcN.upd f x a)=l.map f:=List.map_congr_left fun y hy=>upd_ne _ _ (by rintro rfl;exact hn.1 hy);rw[this,upd_same];exact .head h
  ·rw[upd_ne _ _ hx]
   exact .tail (LR.upd h l hn.2 (by rcases List.mem_cons.1 hm with e|e;exact absurd e.symm hx;exact e))
def wtS(X:Cx)(v:Nat):St→Nat
 |.old=>0
 |.work .add=>20
 |.work (.send _)=>30
 |.work .rel=>19
 |.work .dis=>18
 |.work .dec=>17
 |.work .load=>16
 |.work .store=>15
 |.work .sem=>14
 |.clos .dis=>8*v+11
 |.clos .load=>8*v+10
 |.clos (.cas vs)=>8*(vs+1)+9
 |.clos .wr=>8
 |.clos .sem=>7
 |.clos .load2=>6
 |.clos .enab=>5
 |.clos .acq=>4
 |.clos .close=>3
 |.main (.dis i)=>8*(X.n+1)+4*X.L+100+100*(X.n-i)+90
 |.main (.add i)=>8*(X.n+1)+4*X.L+100+100*(X.n-i)+89
 |.main (.rd i)=>8*(X.n+1)+4*X.L+100+100*(X.n-i)+88
 |.main (.enab i)=>8*(X.n+1)+4*X.L+100+100*(X.n-i)+87
 |.main (.go i)=>8*(X.n+1)+4*X.L+100+100*(X.n-i)+86
 |.main .goc=>8*(X.n+1)+4*X.L+100+60
 |.main (.recv R _)=>4*(X.L-R.length)+1
def Sm(X:Cx)(Γ:Gh)(n c:Nat):Nat:=sumTo n (fun i=>wtS X (sumTo n fun j=>cntW (Γ.st j)) (Γ.st i))+20*(X.L-c)
def Rs(Γ:Gh)(n:Nat):List Rk:=(List.range n).map Γ.rk
def runB:Option Goroutine→Nat
 |some g=>if g.status=.running then 1 else 0
 |none=>0
def Bits(gs:Array Goroutine):Nat:=sumTo gs.size fun i=>runB gs[i]?
abbrev Mu:=Nat×List Rk×Nat
def Lt:Mu→Mu→Prop:=Prod.Lex (·<·) (Prod.Lex LR (·<·))
theorem Lt.wf:WellFounded Lt:=by
 have h1:WellFounded (Prod.Lex LR (fun a b:Nat=>a<b)):=(Prod.lex ⟨LR,LR.wf⟩ Nat.lt_wfRel).wf;exact(Prod.lex Nat.lt_wfRel ⟨_,h1⟩).wf
def mu(X:Cx)(Γ:Gh)(gs:Array Goroutine)(c:Nat):Mu:=(Sm X Γ gs.size c,Rs Γ gs.size,Bits gs)
end Ph
namespace Ph
open Conc Co Cl
open Go.ConcN (sumTo upd sumTo_upd upd_ne upd_same RelBy)
structure Inv(X:Cx)(k0:Nat)(Γ:Gh)(gs:Array Goroutine)(w:World)(t:Trace)(c:Nat)(sv sm:Int)(B:List Nat)(closed:Bool):Prop where
 wt:Wt X k0 Γ gs.size w t
 si:Sits X Γ gs w t
 pr:Proto X k0 Γ gs w t c sv sm B closed
section
variable {X:Cx}{k0 n:Nat}{Γ:Gh}{gs:Array Goroutine}{w w':World}{t:Trace}{i:Nat}{g g':Goroutine}{es:Array Event}{fn:FuncId}{pos:String}{c:Nat}{sv sm:Int}{B:List Nat}{closed:Bool}
theorem again_blocked{o:Goroutine}(h:(o.again w).status=.blocked):o.status=.blocked:=by
 unfold Goroutine.again at h;split at h
 ·assumption
 ·cases h
 ·cases h
 ·exact h
theorem woken_blocked{P:Program}{a a' o:Goroutine}(h:(woken P a a' w o).status=.blocked):o.status=.blocked:=by
 rcases iP P a a' w o with e|e
 ·rw[e]at h;exact h
 ·rw[e]at h;exact again_blocked h
theorem PB.go(h:PB X Γ.st gs sm B closed){P:Program}{a:Goroutine}{st':St}{sm':Int}{closed':Bool}(hi:i<gs.size)(hg:g'.status≠.blocked)
 (hc:closed'=true→closed=true∨∀g,gs[0]? = some g→(woken P a g' w' g).status≠.blocked) (hs:sm'=sm∨sm'=0∨∀g,gs[X.Y.cl]? = some g→(woken P a g' w' g).status≠.blocked) :
 PB X (upd Γ.st i st') ((gs.map (woken P a g' w')).setIfInBounds i g') sm' B closed':=by
 have key:∀ (j:Nat) x,((gs.map (woken P a g' w')).setIfInBounds i g')[j]? = some x→x.status=.blocked→j≠i∧∃ y,gs[j]? = some y∧x=woken P a g' w' y∧y.status=.blocked:=by
  intro j x hx hb;by_cases hji:i=j
  ·subst hji;rw[Array.getElem?_setIfInBounds_self_of_lt (by simpa using hi)]at hx;obtain rfl:=Option.some.inj hx;exact absurd hb hg
  ·rw[Array.getElem?_setIfInBounds_ne hji,Array.getElem?_map]at hx;obtain⟨y,hy,rfl⟩:=Option.map_eq_some_iff.1 hx;exact⟨fun e=>hji e.symm,y,hy,rfl,woken_blocked hb⟩
 refine⟨fun j x k hx hs hb=>?_,fun x hx hb=>?_,fun x hx hb=>?_⟩
 ·obtain⟨hji,y,hy,-,hyb⟩:=key j x hx hb;rw[upd_ne _ _ hji]at hs;exact h.full j y k hy hs hyb
 ·obtain⟨hji,y,hy,e,hyb⟩:=key 0 x hx hb;obtain⟨h1,h2,h3⟩:=h.mblk y hy hyb;refine⟨h1,?_,fun j x k hx hs hb=>?_⟩
  ·cases hcc:closed' with
   |false=>rfl
   |true =>
    rcases hc hcc with h4|h4
    ·rw[h2]at h4;cases h4
    ·exact absurd (e▸hb) (h4 y hy)
  ·obtain⟨hji,y,hy,-,hyb⟩:=key j x hx hb;rw[upd_ne _ _ hji]at hs;exact h3 j y k hy hs hyb
 ·obtain⟨hji,y,hy,e,hyb⟩:=key _ x hx hb;rcases hs with hs|hs|hs
  ·rw[hs];exact h.cblk y hy hyb
  ·exact hs
  ·exact absurd (e▸hb) (hs y hy)
def Meek(t:Trace)(i:Nat)(es:Array Event):Prop:=∀ (j:Nat) e,es[j]? = some e→(MemAct.ofEvent e).touch? = none∨((∃ad wr,e=⟨.cell ad,wr,true⟩)∧0<deafBehind (Deaf t i) (es.extract 0 j))
theorem RelBy.go{a:Addr}{j r:Nat}(h:RelBy a t j r)(hm:j=i→Meek t i es):RelBy a (t++MemOp.ofEvents i fn pos es) j r:=by
 by_cases hji:j=i
 ·subst hji;exact h.appOwn fn pos es (hm rfl)
 ·exact h.appOther (g:=i) (fun op hop=>by obtain⟨e,_,rfl⟩:=Go.Conc.mem_ofEvents hop;rfl) (Ne.symm hji)
theorem Acq.app{q:Nat}(h:Acq X k0 t q){u:Trace}(hr:∀ j r,k0≤j→j<X.Y.cl→RelBy (stA X) t j r→RelBy (stA X) (t++u) j r):Acq X k0 (t++u) q:=by
 have hq:=lt_of_act? h.qa
 exact⟨by rw[act?_old hq];exact h.qa,by rw[g?_old hq];exact h.qg,(heard_old hq).2 h.qh,fun i h1 h2=>by
  obtain⟨r,hr1,hr2⟩:=h.rel i h1 h2
  exact⟨r,hr i r h1 h2 hr1,hr2⟩⟩
theorem iR.app{Y:Lay}{lv:Nat→Prop}{ch q pc:Nat}(h:iR Y lv ch t q pc){u:Trace}(hr:∀ j r,lv j→j≠0→j≠Y.cl→RelBy ⟨Y.wg,0,none⟩ t j r→RelBy ⟨Y.wg,0,none⟩ (t++u) j r)(hn:NoRelease ⟨Y.wg,0,none⟩ (t++u))
 (ha:∀ op∈u,op.g=Y.cl→op.act.touch? = none):iR Y lv ch (t++u) q pc:=by
 have hq:=lt_of_act? h.qa;have hc:=lt_of_act? h.ca;refine⟨fun j h1 h2 h3=>?_,hn,by rw[act?_old hq];exact h.qa,by rw[g?_old hq];exact h.qg,(heard_old hq).2 h.qh,by rw[act?_old hc];exact h.ca,by rw[g?_old hc];exact h.cg,(heard_old hc).2 h.chd,h.lt,fun i op x hi ho hg hx=>?_⟩
 ·obtain⟨r,hr1,hr2⟩:=h.rel j h1 h2 h3;exact⟨r,hr j r h1 h2 h3 hr1,hr2⟩
 ·rcases getElem?_append_cases ho with⟨_,h1⟩|⟨_,h1⟩
  ·exact h.aft i op x hi h1 hg hx
  ·rw[ha op h1 hg]at hx;cases hx
theorem PT.go(h:PT X k0 n Γ.st t closed){st':St}(hncl:n≤X.Y.cl+1)(hn:NoRelease (stA X) (t++MemOp.ofEvents i fn pos es))(hm:relW (Γ.st i)=true→k0≤i→i<X.Y.cl→Meek t i es)
 (hrel:relW st'=true→k0≤i→i<X.Y.cl→relW (Γ.st i)=true∨∃r,RelBy (stA X) (t++MemOp.ofEvents i fn pos es) i r) (hacq:st'=.clos .close→i=X.Y.cl→Γ.st i=.clos .close∨∃q,Acq X k0 (t++MemOp.ofEvents i fn pos es) q)
 (hold:closed=true→i=X.Y.cl→∀ e∈es,(MemAct.ofEvent e).touch? = none) (hdone:∀ j,k0≤j→j<X.Y.cl→(X.Y.cl<n∧Γ.st X.Y.cl=.clos .close)∨closed=true→relW (Γ.st j)=true) {closed':Bool} (hcls:closed'=true→closed=true∨∃q pc,iR X.Y (lvOf k0 n) X.ch (t++MemOp.ofEvents i fn pos es) q pc) :
 PT X k0 n (upd Γ.st i st') (t++MemOp.ofEvents i fn pos es) closed':=by
 refine⟨fun j h1 h2 h3 hj=>?_,fun h1 hj=>?_,fun hc=>?_⟩
 ·by_cases hji:j=i
  ·subst hji;rw[upd_same]at hj;rcases hrel hj h1 h2 with hr|hr
   ·obtain⟨r,hr2⟩:=h.rel j h1 h2 h3 hr;exact⟨r,RelBy.go hr2 fun _=>hm hr h1 h2⟩
   ·exact hr
  ·rw[upd_ne _ _ hji]at hj;obtain⟨r,hr2⟩:=h.rel j h1 h2 h3 hj;exact⟨r,RelBy.go hr2 fun e=>absurd e hji⟩
 ·have keep:Γ.st X.Y.cl=.clos .close→(∃q,Acq X k0 t q)→∃ q,Acq X k0 (t++MemOp.ofEvents i fn pos es) q:=fun hst ⟨q,hq⟩ =>
   ⟨q,hq.app fun j r k1 k2 hr=>RelBy.go hr fun e=>by
    subst e
    exact hm (hdone j k1 k2 (.inl ⟨h1,hst⟩)) k1 k2⟩
  by_cases hji:X.Y.cl=i
  ·rw[hji,upd_same]at hj;rcases hacq hj hji.symm with hr|hr
   ·exact keep (by rw[hji];exact hr) (h.acq h1 (by rw[hji];exact hr))
   ·exact hr
  ·rw[upd_ne _ _ hji]at hj;exact keep hj (h.acq h1 hj)
 ·rcases hcls hc with h4|h4
  ·obtain⟨q,pc,h5⟩:=h.cls h4;refine⟨q,pc,h5.app (fun j r l1 l2 l3 hr=>RelBy.go hr fun e=>?_) hn fun op hop hg=>?_⟩
   ·subst e;rcases l1 with l1|⟨l1,l4⟩
    ·exact absurd l1 l2
    ·exact hm (hdone j l1 (by omega) (.inr h4)) l1 (by omega)
   ·obtain⟨e,he,rfl⟩:=Go.Conc.mem_ofEvents hop;exact hold h4 hg e he
  ·exact h4
theorem jF{f:Nat→Nat}:∀ {n:Nat},sumTo n f=0→∀ j,j<n→f j=0
 |n+1,h,j,hj=>by
  simp only[sumTo]at h;rcases Nat.lt_or_ge j n with hlt|hge
  ·exact jF (by omega) j hlt
  ·obtain rfl:j=n:=by omega
   omega
theorem PA.no_work{st:Nat→St}(h:PA X k0 n st c sv sm B closed)(hck:ckOf X.Y.cl n st=.after):∀ j,j<n→∀ s,st j≠.work s:=by
 intro j hj s e;have hm:=h.mode;rw[hck]at hm
 cases hm with
 |done h0 h1 h2 =>
  have a:=jF h0 j hj;have b:=jF h1 j hj;have d:=jF h2 j hj;rw[e]at a b d
  cases s<;>first|(cases a;done)|(cases b;done)|(cases d;done)
theorem PA.closed_after{st:Nat→St}(h:PA X k0 n st c sv sm B closed)(hc:closed=true):ckOf X.Y.cl n st=.after:=by
 obtain⟨h1,h2⟩:=h.cld.1 hc;unfold ckOf;rw[if_neg (by omega),h2];rfl
theorem Inv.done(h:Inv X k0 Γ gs w t c sv sm B closed):∀ j,k0≤j→j<X.Y.cl→(X.Y.cl<gs.size∧Γ.st X.Y.cl=.clos .close)∨closed=true→relW (Γ.st j)=true:=by
 intro j h1 h2 h3
 have hck:ckOf X.Y.cl gs.size Γ.st=.after∧X.Y.cl<gs.size:=by
  rcases h3 with⟨h3,h4⟩|h3
  ·refine⟨?_,h3⟩;unfold ckOf;rw[if_neg (by omega),h4];rfl
  ·exact⟨h.pr.pa.closed_after h3,(h.pr.pa.cld.1 h3).1⟩
 have hk:=h.wt.kind j (by omega);have hw:=h.pr.pa.no_work hck.1 j (by omega);have:=h.wt.k0p
 cases hs:Γ.st j with
 |old=>rfl
 |work s=>exact absurd hs (hw s)
 |clos s=>rw[hs]at hk;simp only[Kind]at hk;omega
 |main s=>rw[hs]at hk;simp only[Kind]at hk;omega
theorem Inv.go(h:Inv X k0 Γ gs w t c sv sm B closed)(hi:gs[i]? = some g)(hlv:lvOf k0 gs.size i∨∀e∈es,(MemAct.ofEvent e).touch? = none){st':St}{ρ':Rk}{own':Bl}(T:Turn X Γ i own' w w')(hk:Kind X k0 i st')
 (hes:∀ e∈es,EvOk X (Γ.set i st' ρ' own').ev (lvOf k0 gs.size X.Y.cl) i w'.heap.size e) (hsit:Sit X (i==0) st' ρ' own' (deafBehind (Deaf t i) es) g' w') (hst:g'.status≠.blocked)
 {c':Nat} {sv' sm':Int} {closed':Bool} (pa':PA X k0 gs.size (upd Γ.st i st') c' sv' sm' B closed') (nx':NxAt X w' c') (wg':WgAt X w' sv' sm') (ch':∃ buf s r,ChAt X w' buf closed' s r∧Buf X Γ.data buf B)
 (hc:closed'=true→closed=true∨∀x,gs[0]? = some x→(woken X.P g g' w' x).status≠.blocked) (hs:sm'=sm∨sm'=0∨∀x,gs[X.Y.cl]? = some x→(woken X.P g g' w' x).status≠.blocked)
 (hm:relW (Γ.st i)=true→k0≤i→i<X.Y.cl→Meek t i es)
 (hrel:relW st'=true→k0≤i→i<X.Y.cl→relW (Γ.st i)=true∨∃r,RelBy (stA X) (t++MemOp.ofEvents i fn pos es) i r) (hacq:st'=.clos .close→i=X.Y.cl→Γ.st i=.clos .close∨∃q,Acq X k0 (t++MemOp.ofEvents i fn pos es) q)
 (hold:closed=true→i=X.Y.cl→∀ e∈es,(MemAct.ofEvent e).touch? = none) (hcls:closed'=true→closed=true∨∃q pc,iR X.Y (lvOf k0 gs.size) X.ch (t++MemOp.ofEvents i fn pos es) q pc)
 (mdt':∀ R dt,upd Γ.st i st' 0=.main (.recv R dt)→∀ b,dt b→Γ.data b) :
 Inv X k0 (Γ.set i st' ρ' own') ((gs.map (woken X.P g g' w')).setIfInBounds i g') w' (t++MemOp.ofEvents i fn pos es) c' sv' sm' B closed':=by
 have hlt:i<gs.size:=(Array.getElem?_eq_some_iff.1 hi).1
 have hsz:((gs.map (woken X.P g g' w')).setIfInBounds i g').size=gs.size:=by simp
 have hwt:=h.wt.app (fn:=fn) (pos:=pos) hlt hlv T hk hes;refine⟨by rw[hsz];exact hwt,?_,⟨by rw[hsz];exact pa',nx',wg',ch',h.pr.pb.go hlt hst hc hs,by rw[hsz];exact h.pr.pt.go h.wt.ncl hwt.nrl hm hrel hacq hold h.done hcls,mdt'⟩⟩;refine h.si.go h.wt T hlt hsit fun buf s r hch j k hj hji e=>?_;obtain⟨buf',s',r',hch',-⟩:=ch';unfold ChAt at hch hch';rw[hch]at hch';injection hch' with hch';injection hch' with _ _ e3;have:=pa'.no_work (pa'.closed_after e3.symm) j hj (.send k);rw[upd_ne _ _ hji]at this;exact this e
end
end Ph
namespace Ph
open Conc Co Cl
open Go.ConcN (sumTo upd sumTo_upd upd_ne upd_same RelBy)
section
variable {X:Cx}{k0 n:Nat}{Γ:Gh}{gs:Array Goroutine}{w w':World}{t:Trace}{i:Nat}{g g':Goroutine}{es:Array Event}{c:Nat}{sv sm:Int}{B:List Nat}{closed:Bool}
theorem jU{α:Type}(f:Nat→α)(i:Nat):upd f i (f i)=f:=by
 funext a
 unfold upd;split
 ·rename_i e;rw[e]
 ·rfl
theorem jC{a:Addr}{wr sy:Bool}{x:Touch}(h:(MemAct.ofEvent ⟨.cell a,wr,sy⟩).touch? = some x):x=⟨.cell a,wr,if sy then .atomic else .plain⟩:=by
 cases wr<;>cases sy<;>simp[MemAct.ofEvent,MemAct.touch?]at h<;>exact h.symm
theorem evok_O{ev:Nat→Bl}{cls:Prop}{own':Bl}{b:Nat}{e:Event}(h:EvO X.Y.ro own' e)(h1:∀ x,own' x→ev i x∧x<b)(h2:∀ x,X.Y.ro x→x<b):EvOk X ev cls i b e:=by
 obtain⟨loc,wr,sy⟩:=e;rcases h with⟨a,e1,e2,e3⟩|⟨r,e1,e2,e3⟩|e1|⟨k,e1⟩
 ·dsimp only at e1 e2 e3
  subst e1 e2;refine⟨fun x hx=>?_,?_,by simp⟩
  ·have:=jC hx;subst this;refine⟨.inl ⟨_,rfl,rfl,?_⟩,fun hk=>by cases hk⟩;rcases e3 with e3|⟨e3,e4⟩
   ·exact .inl (h1 _ e3).1
   ·exact .inr ⟨e3,e4⟩
  ·have hb:a.block<b:=e3.elim (fun h=>(h1 _ h).2) fun h=>h2 _ h.1;cases wr<;>exact hb
 ·dsimp only at e1 e2 e3
  subst e1 e2
  have ho:MemAct.ofEvent ⟨.obj r,wr,false⟩=.access ⟨.obj r,wr,false⟩:=by cases wr<;>rfl
  refine⟨fun x hx=>?_,by rw[ho];exact(h1 _ e3).2,by simp⟩;rw[ho]at hx;simp only[MemAct.touch?,Option.some.injEq]at hx;subst hx;exact⟨.inl ⟨_,rfl,rfl,.inl (h1 _ e3).1⟩,fun hk=>by cases hk⟩
 ·dsimp only at e1
  subst e1;exact⟨fun x hx=>by simp[MemAct.ofEvent,MemAct.touch?]at hx,trivial,by simp⟩
 ·dsimp only at e1
  subst e1;exact⟨fun x hx=>by simp[MemAct.ofEvent,MemAct.touch?]at hx,trivial,by simp⟩
theorem iF{ev:Nat→Bl}{cls:Prop}{b B:Nat}(h:EvS b es)(hb:b=X.Y.nx∨b=X.Y.wg)(hB:b<B):∀ e∈es,EvOk X ev cls i B e:=by
 intro e he;obtain⟨loc,wr,sy⟩:=e;rcases h _ he with⟨a,e1,e2,e3⟩|e1|⟨k,e1⟩
 ·dsimp only at e1 e2 e3
  subst e1 e3;refine⟨fun x hx=>?_,?_,by simp⟩
  ·have:=jC hx;subst this;exact⟨.inr (.inl ⟨rfl,a,rfl,by rw[e2];exact hb⟩),fun hk=>by cases hk⟩
  ·have:a.block<B:=e2▸hB;cases wr<;>exact this
 ·dsimp only at e1
  subst e1;exact⟨fun x hx=>by simp[MemAct.ofEvent,MemAct.touch?]at hx,trivial,by simp⟩
 ·dsimp only at e1
  subst e1;exact⟨fun x hx=>by simp[MemAct.ofEvent,MemAct.touch?]at hx,trivial,by simp⟩
theorem evok_mute{ev:Nat→Bl}{cls:Prop}{B:Nat}{e:Event}(h:e.mute=true):EvOk X ev cls i B e :=
 ⟨fun x hx=>(by rw[touch_mute h]at hx;cases hx),low_mute h B,fun e1=>by
  obtain⟨loc,wr,sy⟩:=e
  dsimp only at e1
  subst e1
  simp[Event.mute]at h⟩
theorem live_keep(h:Live X w)(h1:w'.heap[X.Y.nx]? = w.heap[X.Y.nx]?)(h2:w'.heap[X.Y.wg]? = w.heap[X.Y.wg]?)(h3:w'.heap[X.ch]? = w.heap[X.ch]?)(h4:w'.os=w.os∧w'.output=w.output):Live X w':=by
 obtain⟨⟨c,a⟩,⟨s,m,b⟩,⟨p,q,r,u,d⟩,e⟩:=h;exact⟨⟨c,by unfold NxAt;rw[h1];exact a⟩,⟨s,m,by unfold WgAt;rw[h2];exact b⟩,⟨p,q,r,u,by unfold ChAt;rw[h3];exact d⟩,h4.1.trans e.1,h4.2.trans e.2⟩
theorem guar_keeps(h:Wt X k0 Γ n w t){own':Bl}(hg:Guar (Γ.own i) own' X.Y.ro w w' es):w'.heap[X.Y.nx]? = w.heap[X.Y.nx]?∧w'.heap[X.Y.wg]? = w.heap[X.Y.wg]?∧w'.heap[X.ch]? = w.heap[X.ch]?:=by
 obtain⟨l1,l2,l3⟩:=h.live_lt;exact⟨hg.keep _ l1 fun ho=>h.split.ownNx _ (h.ownev _ _ ho),hg.keep _ l2 fun ho=>h.split.ownWg _ (h.ownev _ _ ho),hg.keep _ l3 fun ho=>h.evch _ (h.ownev _ _ ho)⟩
theorem turn_guar(h:Wt X k0 Γ n w t){own':Bl}(hg:Guar (Γ.own i) own' X.Y.ro w w' es):Turn X Γ i own' w w':=by
 obtain⟨k1,k2,k3⟩:=guar_keeps h hg;exact⟨hg.size,fun x hx ho _ _ _=>hg.keep x hx ho,live_keep h.live k1 k2 k3 ⟨hg.os,hg.output⟩,hg.lt fun x hx=>h.ownlt _ _ hx,hg.grow⟩
theorem gQ(h:Wt X k0 Γ n w t){own':Bl}(ho:∀ b,own' b→Γ.own i b):Turn X Γ i own' w w:=⟨Nat.le_refl _,fun _ _ _ _ _ _=>rfl,h.live,fun b hb=>h.ownlt _ _ (ho b hb),fun b hb=>.inl (ho b hb)⟩
theorem cO(w:World)(b:Nat)(o:Obj):(put w b o).heap.size=w.heap.size:=by simp[put]
theorem fV(w:World){b x:Nat}(o:Obj)(h:x≠b):(put w b o).heap[x]? = w.heap[x]?:=by
 simp only[put];rw[Array.getElem?_setIfInBounds_ne (Ne.symm h)]
theorem fB{w:World}{b:Nat}{o:Obj}(h:b<w.heap.size):(put w b o).heap[b]? = some o:=by
 simp[put,h]
theorem turn_put(h:Wt X k0 Γ n w t){own':Bl}{b:Nat}{o:Obj}(hb:b=X.Y.nx∨b=X.Y.wg∨b=X.ch)(hl:Live X (put w b o))(ho:∀ b,own' b→Γ.own i b):Turn X Γ i own' w (put w b o) :=
 ⟨Nat.le_of_eq (cO ..).symm,fun x _ _ h1 h2 h3=>fV w o (by rcases hb with hb|hb|hb<;>rw[hb]<;>assumption),hl,fun b hb=>by rw[cO];exact h.ownlt _ _ (ho b hb),fun b hb=>.inl (ho b hb)⟩
theorem lt_rank{gs':Array Goroutine}{ρ':Rk}{own':Bl}(hs:gs'.size=gs.size)(hi:i<gs.size)(h:Rk.Sub ρ' (Γ.rk i)):Lt (mu X (Γ.set i (Γ.st i) ρ' own') gs' c) (mu X Γ gs c):=by
 have e1:Sm X (Γ.set i (Γ.st i) ρ' own') gs'.size c=Sm X Γ gs.size c:=by
  unfold Sm Gh.set;simp only[jU,hs]
 unfold mu;rw[e1];refine Prod.Lex.right _ (Prod.Lex.left _ _ ?_);unfold Rs;rw[hs];exact LR.upd h _ List.nodup_range (List.mem_range.2 hi)
theorem lt_sm{Γ':Gh}{gs':Array Goroutine}{c':Nat}(h:Sm X Γ' gs'.size c'<Sm X Γ gs.size c):Lt (mu X Γ' gs' c') (mu X Γ gs c):=Prod.Lex.left _ _ h
def Good1(X:Cx)(k0:Nat)(Γ:Gh)(gs:Array Goroutine)(w:World)(t:Trace)(c i:Nat):Prop :=
 ∀sl,∃ops Γ' gs' w' c' sv' sm' B' closed',runT X.P (crowd gs w sl) i=(.next (crowd gs' w' sl),ops)∧Inv X k0 Γ' gs' w' (t++ops) c' sv' sm' B' closed'∧Lt (mu X Γ' gs' c') (mu X Γ gs c)
theorem lv_of(h:Inv X k0 Γ gs w t c sv sm B closed)(hi:i<gs.size)(hs:Γ.st i≠.old):lvOf k0 gs.size i:=by
 have hk:=h.wt.kind i hi
 cases hst:Γ.st i with
 |old=>exact absurd hst hs
 |work s=>rw[hst]at hk;exact .inr ⟨hk.1,hi⟩
 |clos s=>rw[hst]at hk;have:=h.wt.k0c;simp only[Kind]at hk;exact .inr ⟨by omega,hi⟩
 |main s=>rw[hst]at hk;exact .inl hk
theorem deafBehind_O{ro own:Bl}{d:Nat}(h:∀ e∈es,EvO ro own e):deafBehind d es=d:=by
 refine deafBehind_still (fun e he=>?_) d
 rcases h e he with⟨a,h1,-⟩|⟨x,h1,-⟩|h1|⟨k,h1⟩<;>rw[h1]<;>simp
theorem move_local(h:Inv X k0 Γ gs w t c sv sm B closed)(hi:gs[i]? = some g)(hs:Γ.st i≠.old){ρ':Rk}{own':Bl}(hst:stepG X.P (i==0) g w=.go g' w' es)(hg:Guar (Γ.own i) own' X.Y.ro w w' es)(hD:dOf (Γ.st i) es)
 (hr:Run X (i==0) (dOf (Γ.st i)) (stop X (Γ.st i)) ρ' own' g' w') (hsub:Rk.Sub ρ' (Γ.rk i)) (hd:Deaf t i=jw (Γ.st i)):Good1 X k0 Γ gs w t c i:=by
 intro sl;have hlt:i<gs.size:=(Array.getElem?_eq_some_iff.1 hi).1;have T:=turn_guar h.wt hg;obtain⟨k1,k2,k3⟩:=guar_keeps h.wt hg;have hrun:=runT_crowd_go (sl:=sl) hi hst;have hrg:g'.status=.running:=hr.running fun _ _ _ h=>aB h;refine⟨_,Γ.set i (Γ.st i) ρ' own',_,w',c,sv,sm,B,closed,hrun,?_,lt_rank (by simp) hlt hsub⟩
 refine h.go hi (.inl (lv_of h hlt hs)) T (h.wt.kind i hlt) (fun e he=>evok_O (hg.ev e he) (fun x hx=>⟨?_,T.lt x hx⟩) fun x hx=>Nat.lt_of_lt_of_le (h.wt.rolt x hx) T.size) ?_ (by rw[hrg];simp) (by rw[jU];exact h.pr.pa) (by unfold NxAt;rw[k1];exact h.pr.nx) (by unfold WgAt;rw[k2];exact h.pr.wg) ?_
  (fun e=>.inl e) (.inl rfl) ?_ (fun a _ _=>.inl a) (fun a _=>.inl a) (fun hc e=>?_) (fun e=>.inl e) fun R dt e=>h.pr.mdt R dt (by rwa[jU]at e)
 ·show upd Γ.ev i _ i x;rw[upd_same];exact .inr hx
 ·rw[deafBehind_O hg.ev]
  cases hst2:Γ.st i with
  |old=>exact absurd hst2 hs
  |_=>rw[hst2]at hr hd;exact⟨hd,.inl hr⟩
 ·obtain⟨buf,s,r,h1,h2⟩:=h.pr.ch
  exact⟨buf,s,r,by unfold ChAt;rw[k3];exact h1,h2⟩
 ·intro hrel h1 h2 j e he;left
  cases hst2:Γ.st i with
  |old=>exact absurd hst2 hs
  |work s =>
   rw[hst2]at hrel hD
   cases s<;>first|(cases hrel;done)|exact hD e (Array.mem_of_getElem? he)
  |clos s=>rw[hst2]at hrel;cases hrel
  |main s=>rw[hst2]at hrel;cases hrel
 ·have:=(h.pr.pa.cld.1 hc).2;rw[←e]at this;exact absurd this hs
theorem move_old(h:Inv X k0 Γ gs w t c sv sm B closed)(hi:gs[i]? = some g)(hs:Γ.st i=.old)(hr:g.status=.running):Good1 X k0 Γ gs w t c i:=by
 intro sl;have hlt:i<gs.size:=(Array.getElem?_eq_some_iff.1 hi).1;have hsit:=h.si i g hi;rw[hs]at hsit;obtain⟨h0,q,hq1,hq⟩:=hsit
 cases q with
 |zero=>have:=hq.1;rw[hr]at this;cases this
 |succ q =>
  rcases hq with⟨hf,_⟩|⟨_,g',es,hm,hstp,hq'⟩
  ·rw[hr]at hf;cases hf
  have hrun:=runT_crowd_go (sl:=sl) hi (show stepG X.P (i==0) g w=_ by rw[h0];exact hstp w)
  have hi0:i≠0:=by
   rintro rfl;cases h0
  have hkind:Kind X k0 i .old:=hi0
  have hnb:g'.status≠.blocked:=fun e=>by
   rcases hq'.status with hh|hh<;>rw[hh]at e<;>cases e
  have hstself:upd Γ.st i .old=Γ.st:=by rw[←hs];exact jU _ _
  have hsub:Rk.Sub (natRk q) (Γ.rk i):=by rw[hq1];exact⟨_,w,rfl,rfl⟩
  have hsz:((gs.map (woken X.P g g' w)).setIfInBounds i g').size=gs.size:=by simp
  have T:=gQ (i:=i) (own':=Γ.own i) h.wt fun _ hb=>hb
  have hmu:Lt (mu X (Γ.set i .old (natRk q) (Γ.own i)) ((gs.map (woken X.P g g' w)).setIfInBounds i g') c) (mu X Γ gs c):=by
   have:=lt_rank (X:=X) (c:=c) (own':=Γ.own i) hsz hlt hsub;rwa[hs]at this
  refine⟨_,Γ.set i .old (natRk q) (Γ.own i),_,w,c,sv,sm,B,closed,hrun,?_,hmu⟩
  exact h.go hi (.inr fun e he=>touch_mute (hm e he)) T hkind (fun e he=>evok_mute (hm e he)) ⟨h0,q,rfl,hq'⟩ hnb (by rw[hstself];exact h.pr.pa) h.pr.nx h.pr.wg h.pr.ch (fun e=>.inl e) (.inl rfl) (fun _ _ _ j e he=>.inl (touch_mute (hm e (Array.mem_of_getElem? he)))) (fun _ _ _=>.inl (by rw[hs];rfl))
   (fun e=>by cases e) (fun _ _ e he=>touch_mute (hm e he)) (fun e=>.inl e) fun R dt e=>h.pr.mdt R dt (by rwa[hstself]at e)
end
end Ph
namespace Ph
open Conc Co Cl
open Go.ConcN (sumTo upd sumTo_upd upd_ne upd_same RelBy)
section
variable {X:Cx}{k0 n:Nat}{Γ:Gh}{gs:Array Goroutine}{w w':World}{t:Trace}{i:Nat}{g g':Goroutine}{es:Array Event}{c:Nat}{sv sm:Int}{B:List Nat}{closed:Bool}
structure AtW(X:Cx)(k0 n:Nat)(st:Nat→St)(i:Nat):Prop where
 lt:i<n
 k1:1≤k0
 lo:k0≤i
 hi:i<X.Y.cl
theorem atW(h:Inv X k0 Γ gs w t c sv sm B closed)(hi:gs[i]? = some g){s:WS}(hs:Γ.st i=.work s):AtW X k0 gs.size Γ.st i:=by
 have hlt:i<gs.size:=(Array.getElem?_eq_some_iff.1 hi).1;have hk:=h.wt.kind i hlt;rw[hs]at hk;exact⟨hlt,h.wt.k0p,hk.1,hk.2⟩
theorem AtW.eqs{st:Nat→St}(a:AtW X k0 n st i)(s':St):ckOf X.Y.cl n (upd st i s')=ckOf X.Y.cl n st∧upd st i s' 0=st 0∧upd st i s' X.Y.cl=st X.Y.cl:=by
 obtain⟨h1,h2,h3,h4⟩:=a;have e1:upd st i s' X.Y.cl=st X.Y.cl:=upd_ne _ _ (by omega);refine⟨?_,upd_ne _ _ (by omega),e1⟩;unfold ckOf;rw[e1]
theorem bM{st:Nat→St}(φ:St→Nat)(s':St)(hi:i<n):sumTo n (fun a=>φ (upd st i s' a))+φ (st i)=sumTo n (fun a=>φ (st a))+φ s':=sumTo_upd st s' φ hi
theorem ng{f g:Nat→Nat}(h:∀ i,f i≤g i):∀ n,sumTo n f≤sumTo n g
 |0=>Nat.le_refl _
 |n+1=>by
  have:=ng h n;have:=h n;simp only[sumTo];omega
theorem wtS_mono{v v':Nat}(h:v'≤v)(s:St):wtS X v' s≤wtS X v s:=by
 cases s with
 |old=>exact Nat.le_refl _
 |work s=>cases s<;>exact Nat.le_refl _
 |main s=>cases s<;>exact Nat.le_refl _
 |clos s=>cases s<;>simp only[wtS]<;>omega
theorem aO{st:Nat→St}(φ:St→Nat){s':St}(hi:i<n)(h:φ s'=φ (st i)):sumTo n (fun a=>φ (upd st i s' a))=sumTo n (fun a=>φ (st a)):=by
 have:=bM (st:=st) φ s' hi;omega
theorem sum_work{st:Nat→St}{φ:St→Nat}(h1:∀ s,φ s≤1)(h0:∀ s,(∀x,s≠.work x)→φ s=0)(hk:∀ i,i<n→Kind X k0 i (st i)):∀ m,m≤n→sumTo m (fun i=>φ (st i))≤min m X.Y.cl-k0
 |0,_=>by simp[sumTo]
 |m+1,hm=>by
  have ih:=sum_work h1 h0 hk m (by omega);simp only[sumTo];have hkm:=hk m (by omega);have:=h1 (st m);by_cases hw:∃ x,st m=.work x
  ·obtain⟨x,hx⟩:=hw;rw[hx]at hkm;obtain⟨k1,k2⟩:=hkm;omega
  ·have:=h0 (st m) fun x e=>hw ⟨x,e⟩;omega
theorem act_le(h:Inv X k0 Γ gs w t c sv sm B closed):sumTo gs.size (fun i=>actW (Γ.st i))+(X.Y.cl-gs.size)≤X.n:=by
 have:=sum_work (X:=X) (k0:=k0) (φ:=actW) (st:=Γ.st) (fun s=>by
  cases s with
  |work s=>cases s<;>simp[actW]
  |_=>simp[actW]) (fun s hs=>by
  cases s with
  |work s=>exact absurd rfl (hs s)
  |_=>rfl) h.wt.kind gs.size (Nat.le_refl _)
 have h1:=h.pr.pa.clk;have h2:=h.wt.ncl;have h3:=h.wt.k0n;have h4:=h.wt.k0c;omega
theorem sm_set{s':St}{ρ':Rk}{own':Bl}{c':Nat}(hi:i<n)(hv:cntW s'≤cntW (Γ.st i))(hlt:wtS X (sumTo n fun j=>cntW (Γ.st j)) s'+20*(X.L-c')<wtS X (sumTo n fun j=>cntW (Γ.st j)) (Γ.st i)+20*(X.L-c)) :
 Sm X (Γ.set i s' ρ' own') n c'<Sm X Γ n c:=by
 have e1:=bM (st:=Γ.st) cntW s' hi;have e2:=bM (st:=Γ.st) (wtS X (sumTo n fun j=>cntW (Γ.st j))) s' hi;unfold Sm;show sumTo n (fun a=>wtS X (sumTo n fun j=>cntW (upd Γ.st i s' j)) (upd Γ.st i s' a))+_<_;have e3:sumTo n (fun a=>wtS X (sumTo n fun j=>cntW (upd Γ.st i s' j)) (upd Γ.st i s' a))≤sumTo n fun a=>wtS X (sumTo n fun j=>cntW (Γ.st j)) (upd Γ.st i s' a):=ng (fun a=>wtS_mono (by omega) _) n;omega
theorem aX{b d:Nat}(h:EvS b es):deafBehind d es=d:=by
 refine deafBehind_still (fun e he=>?_) d
 rcases h e he with⟨a,h1,-⟩|h1|⟨k,h1⟩<;>rw[h1]<;>simp
theorem evS_extract{b:Nat}(h:EvS b es)(j:Nat):EvS b (es.extract 0 j):=fun e he=>h e (by
 obtain⟨k,hk,rfl⟩:=Array.mem_iff_getElem.1 he
 simp)
theorem meek_S{b:Nat}(h:EvS b es)(hd:0<Deaf t i):Meek t i es:=by
 intro j e he;obtain⟨loc,wr,sy⟩:=e;rcases h _ (Array.mem_of_getElem? he) with⟨a,e1,e2,e3⟩|e1|⟨k,e1⟩
 ·dsimp only at e1 e3
  subst e1 e3;exact .inr ⟨⟨a,wr,rfl⟩,by rw[aX (evS_extract h j)];exact hd⟩
 ·dsimp only at e1
  subst e1;exact .inl rfl
 ·dsimp only at e1
  subst e1;exact .inl rfl
theorem fC{ev:Nat→Bl}{cls:Prop}{m:Mark}{b:Nat}(h1:(MemAct.mark m).touch? = none)(h2:(MemAct.mark m).low b)(h3:m≠.release (stA X)):∀ e∈#[Ph.mk m],EvOk X ev cls i b e:=by
 intro e he;simp at he;subst he;exact⟨fun x hx=>(by simp only[Ph.mk,MemAct.ofEvent]at hx;rw[h1]at hx;cases hx),h2,fun e=>h3 (Loc.mark.inj e)⟩
theorem live_put_wg{st sm:Int}(h:Live X w)(hne:X.Y.nx≠X.Y.wg)(hnc:X.ch≠X.Y.wg):Live X (put w X.Y.wg (X.wgO st sm)):=by
 obtain⟨⟨c,a⟩,⟨s,m,b⟩,⟨p,q,r,u,d⟩,e⟩:=h;exact⟨⟨c,by unfold NxAt;rw[fV _ _ hne];exact a⟩,⟨st,sm,fB (Array.getElem?_eq_some_iff.1 b).1⟩,⟨p,q,r,u,by unfold ChAt;rw[fV _ _ hnc];exact d⟩,e⟩
theorem live_put_nx{x:Int}(h:Live X w)(hne:X.Y.nx≠X.Y.wg)(hnc:X.ch≠X.Y.nx):Live X (put w X.Y.nx (X.nxO x)):=by
 obtain⟨⟨c,a⟩,⟨s,m,b⟩,⟨p,q,r,u,d⟩,e⟩:=h;exact⟨⟨x,fB (Array.getElem?_eq_some_iff.1 a).1⟩,⟨s,m,by unfold WgAt;rw[fV _ _ hne.symm];exact b⟩,⟨p,q,r,u,by unfold ChAt;rw[fV _ _ hnc];exact d⟩,e⟩
structure Three(X:Cx):Prop where
 nw:X.Y.nx≠X.Y.wg
 cw:X.ch≠X.Y.wg
 cn:X.ch≠X.Y.nx
 small:X.L+X.n+2<2147483647
 few:X.n≤8
theorem mdt_work(h:Inv X k0 Γ gs w t c sv sm B closed){s':St}(h0:upd Γ.st i s' 0=Γ.st 0):∀ R dt,upd Γ.st i s' 0=.main (.recv R dt)→∀ b,dt b→Γ.data b:=fun R dt e=>h.pr.mdt R dt (by rw[h0]at e;exact e)
theorem move_add(h3:Three X)(h:Inv X k0 Γ gs w t c sv sm B closed)(hi:gs[i]? = some g)(hs:Γ.st i=.work .add)(hd:Deaf t i=0)(hst:SAdd X (Γ.own i) g w)(hi0:(i==0)=false):Good1 X k0 Γ gs w t c i:=by
 intro sl;have a:=atW h hi hs;obtain⟨hr,hstep⟩:=hst;have hcb:=h.pr.pa.cb;have hsm:=h3.small;obtain⟨g',es,hgo,hev,hlt,hge⟩:=hstep c (by omega) h.pr.nx;have hrun:=runT_crowd_go (sl:=sl) hi (by rw[hi0];exact hgo);have T:∀ own':Bl,(∀b,own' b→Γ.own i b)→Turn X Γ i own' w (put w X.Y.nx (X.nxO (c+1))):=fun own' ho=>turn_put h.wt (.inl rfl) (live_put_nx h.wt.live h3.nw h3.cn) ho;have l1:=h.wt.live_lt.1
 have fin:∀ (s':WS) (ρ':Rk),Run X false (dOf (.work s')) (wstop X s') ρ' noB g' (put w X.Y.nx (X.nxO (c+1)))→jw (.work s')=0→relW (.work s')=false→(s'=.send c∧c<X.L∨s'=.rel∧X.L≤c) →
  ∃ops Γ' gs' w' c' sv' sm' B' closed',runT X.P (crowd gs w sl) i=(.next (crowd gs' w' sl),ops)∧Inv X k0 Γ' gs' w' (t++ops) c' sv' sm' B' closed'∧Lt (mu X Γ' gs' c') (mu X Γ gs c):=by
  intro s' ρ' hrun' hda hrw hcase;obtain⟨q1,q2,q3⟩:=a.eqs (.work s');have hrg:g'.status=.running:=hrun'.running fun _ _ _ h=>aB (s:=.work s') h
  have hcn:cntW (.work s')=1∧lastW (.work s')=0∧lsemW (.work s')=0:=by
   rcases hcase with⟨rfl,-⟩|⟨rfl,-⟩<;>exact⟨rfl,rfl,rfl⟩
  have e1:=aO (st:=Γ.st) cntW (s':=.work s') a.lt (by rw[hs,hcn.1];rfl);have e2:=aO (st:=Γ.st) lastW (s':=.work s') a.lt (by rw[hs,hcn.2.1];rfl);have e3:=aO (st:=Γ.st) lsemW (s':=.work s') a.lt (by rw[hs,hcn.2.2];rfl)
  have e4:sumTo gs.size (fun a=>actW (upd Γ.st i (.work s') a))+1=sumTo gs.size (fun a=>actW (Γ.st a))+actW (.work s'):=by
   have:=bM (st:=Γ.st) actW (.work s') a.lt;rwa[hs]at this
  refine⟨_,Γ.set i (.work s') ρ' noB,_,_,c+1,sv,sm,B,closed,hrun,?_,lt_sm ?_⟩
  ·refine h.go hi (.inl (lv_of h a.lt (by rw[hs];simp))) (T noB fun _ hb=>hb.elim) (show Kind X k0 i (.work s') from⟨a.lo,a.hi⟩) (iF hev (.inl rfl) (by rw[cO];exact l1)) ?_ (by rw[hrg];simp) ?_ ?_ ?_ ?_ (fun e=>.inl e) (.inl rfl) (fun e _ _=>by rw[hs]at e;cases e)
    (fun e=>by rw[hrw]at e;cases e) (fun e=>by cases e) (fun _ e=>absurd e (by have:=a.hi;omega)) (fun e=>.inl e) (mdt_work h q2)
   ·rw[aX hev,hd,hi0];exact⟨hda.symm,.inl hrun'⟩
   ·refine⟨h.pr.pa.clk,?_,?_,h.pr.pa.blen,fun k hk=>?_,?_,fun j k hj e=>?_,?_,?_,?_,fun j h1 h2 h3 e=>?_⟩
    ·rcases hcase with⟨rfl,hc⟩|⟨rfl,hc⟩
     ·exact .inl (by omega)
     ·right;have e5:actW (.work .rel)=0:=rfl;rw[e5]at e4;have hle:=act_le h;omega
    ·rw[q1,e1,e2,e3];exact h.pr.pa.mode
    ·rw[q2]
     have e5:sumTo gs.size (fun a=>inflW k (upd Γ.st i (.work s') a))+0=sumTo gs.size (fun a=>inflW k (Γ.st a))+inflW k (.work s'):=by
      have:=bM (st:=Γ.st) (inflW k) (.work s') a.lt;rwa[hs]at this
     have:=h.pr.pa.count k hk;rcases hcase with⟨rfl,hc⟩|⟨rfl,hc⟩
     ·have e6:inflW k (.work (.send c))=if c=k then 1 else 0:=rfl
      rw[e6]at e5;by_cases hck:c=k
      ·subst hck;rw[if_pos rfl]at e5;rw[if_neg (by omega)]at this;rw[if_pos (by omega)];omega
      ·rw[if_neg hck]at e5
       have e7:(if k<c+1 then 1 else 0)=if k<c then 1 else 0:=by
        by_cases h1:k<c
        ·rw[if_pos h1,if_pos (by omega)]
        ·rw[if_neg h1,if_neg (by omega)]
       rw[e7];omega
     ·have e6:inflW k (.work .rel)=0:=rfl;rw[e6]at e5;rw[if_pos (by omega)]at this;rw[if_pos (by omega)];omega
    ·rw[q2];exact h.pr.pa.inR
    ·by_cases hji:j=i
     ·subst hji;rw[upd_same]at e;rcases hcase with⟨rfl,hc⟩|⟨rfl,hc⟩
      ·injection e with e;injection e with e;omega
      ·injection e with e;cases e
     ·rw[upd_ne _ _ hji]at e;exact h.pr.pa.inS j k hj e
    ·rw[q2];exact h.pr.pa.stage
    ·rw[q3];exact h.pr.pa.cld
    ·rw[q3,e1];exact h.pr.pa.cas
    ·by_cases hji:j=i
     ·subst hji;rw[upd_same]at e;rcases hcase with⟨rfl,hc⟩|⟨rfl,hc⟩
      ·cases e
      ·omega
     ·rw[upd_ne _ _ hji]at e;have:=h.pr.pa.pas j h1 h2 h3 e;omega
   ·exact fB l1
   ·unfold WgAt;rw[fV _ _ h3.nw.symm];exact h.pr.wg
   ·obtain⟨buf,s,r,k1,k2⟩:=h.pr.ch
    exact⟨buf,s,r,by unfold ChAt;rw[fV _ _ h3.cn];exact k1,k2⟩
  ·rw[show((gs.map (woken X.P g g' (put w X.Y.nx (X.nxO (c+1))))).setIfInBounds i g').size=gs.size by simp]
   refine sm_set a.lt (by rw[hs,hcn.1];exact Nat.le_refl _) ?_;rw[hs]
   rcases hcase with⟨rfl,hc⟩|⟨rfl,hc⟩<;>simp only[wtS]<;>omega
 rcases Nat.lt_or_ge c X.L with hc|hc
 ·obtain⟨ρ',hρ⟩:=hlt hc;exact fin (.send c) ρ' hρ rfl rfl (.inl ⟨rfl,hc⟩)
 ·obtain⟨ρ',hρ⟩:=hge hc;exact fin .rel ρ' hρ rfl rfl (.inr ⟨rfl,hc⟩)
end
end Ph
namespace Ph
open Conc Co Cl
open Go.ConcN (sumTo upd sumTo_upd upd_ne upd_same RelBy)
section
variable {X:Cx}{k0 n:Nat}{Γ:Gh}{gs:Array Goroutine}{w w':World}{t:Trace}{i:Nat}{g g':Goroutine}{es:Array Event}{c:Nat}{sv sm:Int}{B:List Nat}{closed:Bool}
structure GTurn(X:Cx)(w w':World):Prop where
 size:w'.heap.size=w.heap.size
 keep:∀ x,x≠X.Y.wg→w'.heap[x]? = w.heap[x]?
 live:Live X w'
theorem GTurn.same(h:Live X w):GTurn X w w:=⟨rfl,fun _ _=>rfl,h⟩
theorem GTurn.put(h3:Three X){st sm:Int}(h:Live X w):GTurn X w (put w X.Y.wg (X.wgO st sm)):=⟨cO ..,fun x hx=>fV _ _ hx,live_put_wg h h3.nw h3.cw⟩
theorem GTurn.turn(h:Wt X k0 Γ n w t)(T:GTurn X w w'):Turn X Γ i noB w w':=⟨Nat.le_of_eq T.size.symm,fun x _ _ _ h2 _=>T.keep x h2,T.live,fun b hb=>hb.elim,fun b hb=>hb.elim⟩
theorem dP(h3:Three X)(h:Inv X k0 Γ gs w t c sv sm B closed)(hi:gs[i]? = some g){s:WS}(hs:Γ.st i=.work s){s':St}{ρ':Rk}{sv' sm':Int}
 (hgo:stepG X.P (i==0) g w=.go g' w' es) (T:GTurn X w w') (hwg:WgAt X w' sv' sm') (hk:Kind X k0 i s') (hes:∀ e∈es,EvOk X (Γ.set i s' ρ' noB).ev (lvOf k0 gs.size X.Y.cl) i w'.heap.size e)
 (hsit:Sit X (i==0) s' ρ' noB (deafBehind (Deaf t i) es) g' w') (hnb:g'.status≠.blocked)
 (hmode:Mode (sumTo gs.size fun a=>cntW (upd Γ.st i s' a)) (sumTo gs.size fun a=>lastW (upd Γ.st i s' a)) (sumTo gs.size fun a=>lsemW (upd Γ.st i s' a)) (ckOf X.Y.cl gs.size Γ.st) sv' sm')
 (hact:actW s'=0∧actW (.work s)=0∧∀ k,inflW k s'=0∧inflW k (.work s)=0) (hsend:∀ k,s'≠.work (.send k)) (hsm:sm'=sm∨sm'=0∨∀x,gs[X.Y.cl]? = some x→(woken X.P g g' w' x).status≠.blocked)
 (hm:relW (.work s)=true→Meek t i es) (hrel:relW s'=true→relW (.work s)=true∨∃r,RelBy (stA X) (t++MemOp.ofEvents i g.frame.fn g.frame.place es) i r) (hcl:s'≠.clos .close)
 (hcn:cntW s'≤cntW (.work s)) (hwt:wtS X 0 s'<wtS X 0 (.work s)) (hw0:∀ v,wtS X v s'=wtS X 0 s'):Good1 X k0 Γ gs w t c i:=by
 intro sl;have a:=atW h hi hs;have hrun:=runT_crowd_go (sl:=sl) hi hgo;obtain⟨q1,q2,q3⟩:=a.eqs s';refine⟨_,Γ.set i s' ρ' noB,_,_,c,sv',sm',B,closed,hrun,?_,lt_sm ?_⟩
 ·refine h.go hi (.inl (lv_of h a.lt (by rw[hs];simp))) (T.turn h.wt) hk hes hsit hnb ?_ ?_ hwg ?_ (fun e=>.inl e) hsm (fun e _ _=>hm (by rw[hs]at e;exact e))
   (fun e _ _=>by rw[hs];exact hrel e) (fun e=>absurd e hcl) (fun _ e=>absurd e (by have:=a.hi;omega)) (fun e=>.inl e) (mdt_work h q2)
  ·refine⟨h.pr.pa.clk,?_,by rw[q1];exact hmode,h.pr.pa.blen,fun k hk=>?_,by rw[q2];exact h.pr.pa.inR,fun j k hj e=>?_,by rw[q2];exact h.pr.pa.stage,by rw[q3];exact h.pr.pa.cld,fun vs hv e=>?_,fun j h1 h2 h3 e=>?_⟩
   rotate_right 2
   ·have e6:=bM (st:=Γ.st) cntW s' a.lt;rw[hs]at e6;have:=h.pr.pa.cas vs hv (by rw[q3]at e;exact e);omega
   ·by_cases hji:j=i
    ·subst hji
     exact h.pr.pa.pas j h1 h2 h3 (by rw[hs];exact hact.2.1)
    ·rw[upd_ne _ _ hji]at e;exact h.pr.pa.pas j h1 h2 h3 e
   ·have e4:=bM (st:=Γ.st) actW s' a.lt;rw[hact.1]at e4
    exact h.pr.pa.cb.imp id fun h=>by omega
   ·have e5:=aO (st:=Γ.st) (inflW k) (s':=s') a.lt (by rw[hs,(hact.2.2 k).1,(hact.2.2 k).2]);rw[q2,e5];exact h.pr.pa.count k hk
   ·by_cases hji:j=i
    ·subst hji;rw[upd_same]at e;exact absurd e (hsend k)
    ·rw[upd_ne _ _ hji]at e;exact h.pr.pa.inS j k hj e
  ·unfold NxAt;rw[T.keep _ h3.nw];exact h.pr.nx
  ·obtain⟨buf,s,r,k1,k2⟩:=h.pr.ch
   exact⟨buf,s,r,by unfold ChAt;rw[T.keep _ h3.cw];exact k1,k2⟩
 ·rw[show((gs.map (woken X.P g g' w')).setIfInBounds i g').size=gs.size by simp]
  refine sm_set a.lt (by rw[hs];exact hcn) ?_;rw[hs,hw0]
  have:wtS X (sumTo gs.size fun j=>cntW (Γ.st j)) (.work s)=wtS X 0 (.work s):=by cases s<;>rfl
  omega
theorem nI(h:Inv X k0 Γ gs w t c sv sm B closed)(hi:i<gs.size){s':St}(h1:cntW s'=cntW (Γ.st i))(h2:lastW s'=lastW (Γ.st i))(h3:lsemW s'=lsemW (Γ.st i)) :
 Mode (sumTo gs.size fun a=>cntW (upd Γ.st i s' a)) (sumTo gs.size fun a=>lastW (upd Γ.st i s' a)) (sumTo gs.size fun a=>lsemW (upd Γ.st i s' a)) (ckOf X.Y.cl gs.size Γ.st) sv sm:=by
 rw[aO (st:=Γ.st) cntW hi h1,aO (st:=Γ.st) lastW hi h2,aO (st:=Γ.st) lsemW hi h3];exact h.pr.pa.mode
theorem bu{m:Bool}{s:St}{ρ:Rk}{own:Bl}(hs:s≠.old){D:Array Event→Prop}(h:Run X m D (stop X s) ρ own g w):g.status≠.blocked:=by
 rw[h.running fun _ _ _ h=>aB h];simp
theorem move_rel(h3:Three X)(h:Inv X k0 Γ gs w t c sv sm B closed)(hi:gs[i]? = some g)(hs:Γ.st i=.work .rel)(hd:Deaf t i=0)(hst:SRel X (Γ.own i) g w)(hi0:(i==0)=false):Good1 X k0 Γ gs w t c i:=by
 obtain⟨hr,g',hgo,ρ',hρ⟩:=hst;have a:=atW h hi hs;have hl:=h.wt.live_lt.2.1
 have hdb:deafBehind (Deaf t i) #[Ph.mk (.releaseMerge (stA X))]=0:=by rw[hd];rfl
 exact dP h3 h hi hs (by rw[hi0];exact hgo) (.same h.wt.live) h.pr.wg (show Kind X k0 i (.work .dis) from⟨a.lo,a.hi⟩) (fC (m:=.releaseMerge (stA X)) rfl hl (by simp)) (by rw[hdb,hi0];exact⟨rfl,.inl hρ⟩) (bu (s:=.work .dis) (by simp) hρ)
  (nI h a.lt (by rw[hs];rfl) (by rw[hs];rfl) (by rw[hs];rfl)) ⟨rfl,rfl,fun k=>⟨rfl,rfl⟩⟩ (fun k e=>by cases e) (.inl rfl) (fun e=>by cases e) (fun _=>.inr ⟨_,RelBy.new hd _ _⟩) (by simp) (Nat.le_refl _) (by simp[wtS]) (fun _=>rfl)
theorem move_dis(h3:Three X)(h:Inv X k0 Γ gs w t c sv sm B closed)(hi:gs[i]? = some g)(hs:Γ.st i=.work .dis)(hd:Deaf t i=0)(hst:SDis X (Γ.own i) g w)(hi0:(i==0)=false):Good1 X k0 Γ gs w t c i:=by
 obtain⟨hr,g',hgo,ρ',hρ⟩:=hst;have a:=atW h hi hs
 have hdb:deafBehind (Deaf t i) #[Ph.mk .disable]=1:=by rw[hd];rfl
 refine dP h3 h hi hs (by rw[hi0];exact hgo) (.same h.wt.live) h.pr.wg (show Kind X k0 i (.work .dec) from⟨a.lo,a.hi⟩) (fC (m:=.disable) rfl trivial (by simp)) (by rw[hdb,hi0];exact⟨rfl,.inl hρ⟩) (bu (s:=.work .dec) (by simp) hρ)
  (nI h a.lt (by rw[hs];rfl) (by rw[hs];rfl) (by rw[hs];rfl)) ⟨rfl,rfl,fun k=>⟨rfl,rfl⟩⟩ (fun k e=>by cases e) (.inl rfl) (fun _ j e he=>.inl ?_) (fun _=>.inl rfl) (by simp) (Nat.le_refl _) (by simp[wtS]) (fun _=>rfl)
 have:=Array.mem_of_getElem? he;simp at this;subst this;rfl
theorem cnt_pos(hi:i<n){st:Nat→St}(φ:St→Nat)(h:φ (st i)=1):1≤sumTo n fun a=>φ (st a):=by
 have:=Go.ConcN.le_sumTo (f:=fun a=>φ (st a)) hi;simp only[h]at this;exact this
theorem cnt_le(h:Inv X k0 Γ gs w t c sv sm B closed):sumTo gs.size (fun i=>cntW (Γ.st i))≤X.n+1:=by
 have key:∀ m,m≤gs.size→sumTo m (fun i=>cntW (Γ.st i))≤(min m X.Y.cl-k0)+1∧(m=0→sumTo m (fun i=>cntW (Γ.st i))=0):=by
  intro m
  induction m with
  |zero=>intro _;exact⟨by simp[sumTo],fun _=>rfl⟩
  |succ m ih =>
   intro hm;obtain⟨i1,i2⟩:=ih (by omega);refine⟨?_,fun e=>by omega⟩;simp only[sumTo];have hk:=h.wt.kind m (by omega);have hk0:=h.wt.k0p
   have h1:cntW (Γ.st m)≤1:=by
    cases Γ.st m with
    |old=>simp[cntW]
    |work s=>cases s<;>simp[cntW]
    |clos s=>simp[cntW]
    |main s=>cases s<;>simp[cntW]
   cases hs:Γ.st m with
   |old=>rw[show cntW .old=0 from rfl];omega
   |clos s=>rw[show cntW (.clos s)=0 from rfl];omega
   |work s =>
    rw[hs]at hk h1;obtain⟨k1,k2⟩:=hk;omega
   |main s =>
    rw[hs]at hk h1;simp only[Kind]at hk;subst hk;rw[i2 rfl];omega
 have:=(key gs.size (Nat.le_refl _)).1;have h1:=h.pr.pa.clk;omega
theorem bF{g:Goroutine}(h:g.status=.running∨g.status=.finished):g.status≠.blocked:=fun e=>by
 rcases h with h|h<;>rw[h]at e<;>cases e
theorem move_dec(h3:Three X)(h:Inv X k0 Γ gs w t c sv sm B closed)(hi:gs[i]? = some g)(hs:Γ.st i=.work .dec)(hd:Deaf t i=1)(hst:SDec X (Γ.own i) g w)(hi0:(i==0)=false):Good1 X k0 Γ gs w t c i:=by
 obtain⟨hr,hstep⟩:=hst;have a:=atW h hi hs;have hc:=cnt_le h;have hsml:=h3.small;have hfew:=h3.few;have hl:=h.wt.live_lt.2.1;have hpos:=cnt_pos a.lt (st:=Γ.st) cntW (by rw[hs];rfl)
 have e1:sumTo gs.size (fun a=>cntW (upd Γ.st i .old a))+1=sumTo gs.size fun a=>cntW (Γ.st a):=by
  have:=bM (st:=Γ.st) cntW .old a.lt;rwa[hs]at this
 have e1':sumTo gs.size (fun a=>cntW (upd Γ.st i (.work .load) a))+1=sumTo gs.size fun a=>cntW (Γ.st a):=by
  have:=bM (st:=Γ.st) cntW (.work .load) a.lt;rwa[hs]at this
 have e2:=aO (st:=Γ.st) lastW (s':=.old) a.lt (by rw[hs];rfl);have e3:=aO (st:=Γ.st) lsemW (s':=.old) a.lt (by rw[hs];rfl)
 have e2':sumTo gs.size (fun a=>lastW (upd Γ.st i (.work .load) a))=sumTo gs.size (fun a=>lastW (Γ.st a))+1:=by
  have:=bM (st:=Γ.st) lastW (.work .load) a.lt;rwa[hs]at this
 have e3':=aO (st:=Γ.st) lsemW (s':=.work .load) a.lt (by rw[hs];rfl);have hwg:=h.pr.wg
 have bye:∀ (v wt:Nat) (g':Goroutine) (es:Array Event),stepG X.P false g w=.go g' (put w X.Y.wg (X.wgO (v*KK+wt) 0)) es→EvS X.Y.wg es→(∃q,QuitsD X.P q 1 g')→Mode (sumTo gs.size fun a=>cntW (upd Γ.st i .old a)) (sumTo gs.size fun a=>lastW (upd Γ.st i .old a)) (sumTo gs.size fun a=>lsemW (upd Γ.st i .old a)) (ckOf X.Y.cl gs.size Γ.st) (v*KK+wt) 0→Good1 X k0 Γ gs w t c i:=by
  rintro v wt g' es hgo hev ⟨q,hq⟩ hm
  exact dP h3 h hi hs (s':=.old) (ρ':=natRk q) (by rw[hi0];exact hgo) (.put h3 h.wt.live) (fB hl) (show Kind X k0 i .old from by have:=a.k1;have:=a.lo;show i≠0;omega) (iF hev (.inr rfl) (by rw[cO];exact hl)) (by rw[aX hev,hd];exact⟨hi0,q,rfl,hq⟩) (bF hq.status)
   hm ⟨rfl,rfl,fun k=>⟨rfl,rfl⟩⟩ (fun k e=>by cases e) (.inr (.inl rfl)) (fun _=>meek_S hev (by omega)) (fun _=>.inl rfl) (by simp) (by simp[cntW]) (by simp[wtS]) (fun _=>rfl)
 have hmode:=h.pr.pa.mode;generalize hck:ckOf X.Y.cl gs.size Γ.st=ck at hmode bye;generalize hV:sumTo gs.size (fun i=>cntW (Γ.st i))=V at *
 cases hmode with
 |opn k1 k2 =>
  obtain⟨v,rfl⟩:∃ v,V=v+1:=⟨V-1,by omega⟩;obtain⟨g',es,hgo,hev,-,hq⟩:=hstep v 0 (by omega) (by omega) (by simpa using hwg);refine bye v 0 g' es hgo hev (hq (by omega)) ?_;rw[e2,e3,show sumTo gs.size (fun a=>cntW (upd Γ.st i .old a))=v by omega,k1,k2];have:=Mode.opn (v:=v) (last:=0) (lsem:=0) rfl rfl;simpa using this
 |reg k0' k1 k2 =>
  obtain⟨v,rfl⟩:∃ v,V=v+1:=⟨V-1,by omega⟩;obtain⟨g',es,hgo,hev,hld,hq⟩:=hstep v 1 (by omega) (by omega) (by simpa using hwg);by_cases hv:v=0
  ·subst hv;obtain⟨ρ',hρ⟩:=hld ⟨rfl,rfl⟩
   refine dP h3 h hi hs (s':=.work .load) (ρ':=ρ') (by rw[hi0];exact hgo) (.put h3 h.wt.live) (fB hl) (show Kind X k0 i (.work .load) from⟨a.lo,a.hi⟩) (iF hev (.inr rfl) (by rw[cO];exact hl)) (by rw[aX hev,hd,hi0];exact⟨rfl,.inl hρ⟩) (bu (s:=.work .load) (by simp) hρ)
    ?_ ⟨rfl,rfl,fun k=>⟨rfl,rfl⟩⟩ (fun k e=>by cases e) (.inr (.inl rfl)) (fun _=>meek_S hev (by omega)) (fun _=>.inl rfl) (by simp) (by simp[cntW]) (by simp[wtS]) (fun _=>rfl)
   rw[hck,e2',e3',show sumTo gs.size (fun a=>cntW (upd Γ.st i (.work .load) a))=0 by omega,k1,k2];have:=Mode.lst (v:=0) (last:=1) (lsem:=0) rfl rfl rfl;simpa using this
  ·refine bye v 1 g' es hgo hev (hq (by omega)) ?_;rw[e2,e3,show sumTo gs.size (fun a=>cntW (upd Γ.st i .old a))=v by omega,k1,k2];have:=Mode.reg (v:=v) (last:=0) (lsem:=0) (by omega) rfl rfl;simpa using this
 |lst k0' _ _|sem k0' _ _|up k0' _ _|done k0' _ _=>omega
theorem move_load(h3:Three X)(h:Inv X k0 Γ gs w t c sv sm B closed)(hi:gs[i]? = some g)(hs:Γ.st i=.work .load)(hd:Deaf t i=1)(hst:SLoad X (Γ.own i) g w)(hi0:(i==0)=false):Good1 X k0 Γ gs w t c i:=by
 obtain⟨hr,hstep⟩:=hst;have a:=atW h hi hs;have hl:=h.wt.live_lt.2.1;have hpos:=cnt_pos a.lt (st:=Γ.st) lastW (by rw[hs];rfl);have hm2:=h.pr.pa.mode
 have hwg:WgAt X w 1 0:=by
  have hwg:=h.pr.wg;generalize ckOf X.Y.cl gs.size Γ.st=ck at hm2
  cases hm2 with
  |lst _ _ _=>exact hwg
  |_=>omega
 obtain⟨g',es,hgo,hev,ρ',hρ⟩:=hstep hwg
 exact dP h3 h hi hs (by rw[hi0];exact hgo) (.same h.wt.live) h.pr.wg (show Kind X k0 i (.work .store) from⟨a.lo,a.hi⟩) (iF hev (.inr rfl) hl) (by rw[aX hev,hd,hi0];exact⟨rfl,.inl hρ⟩) (bu (s:=.work .store) (by simp) hρ)
  (nI h a.lt (by rw[hs];rfl) (by rw[hs];rfl) (by rw[hs];rfl)) ⟨rfl,rfl,fun k=>⟨rfl,rfl⟩⟩ (fun k e=>by cases e) (.inl rfl) (fun _=>meek_S hev (by omega)) (fun _=>.inl rfl) (by simp) (Nat.le_refl _) (by simp[wtS]) (fun _=>rfl)
theorem move_store(h3:Three X)(h:Inv X k0 Γ gs w t c sv sm B closed)(hi:gs[i]? = some g)(hs:Γ.st i=.work .store)(hd:Deaf t i=1)(hst:SStore X (Γ.own i) g w)(hi0:(i==0)=false):Good1 X k0 Γ gs w t c i:=by
 obtain⟨hr,hstep⟩:=hst;have a:=atW h hi hs;have hl:=h.wt.live_lt.2.1;have hpos:=cnt_pos a.lt (st:=Γ.st) lastW (by rw[hs];rfl);have hm2:=h.pr.pa.mode;have e1:=aO (st:=Γ.st) cntW (s':=.work .sem) a.lt (by rw[hs];rfl)
 have e2:sumTo gs.size (fun a=>lastW (upd Γ.st i (.work .sem) a))+1=sumTo gs.size (fun a=>lastW (Γ.st a)):=by
  have:=bM (st:=Γ.st) lastW (.work .sem) a.lt;rwa[hs]at this
 have e3:sumTo gs.size (fun a=>lsemW (upd Γ.st i (.work .sem) a))=sumTo gs.size (fun a=>lsemW (Γ.st a))+1:=by
  have:=bM (st:=Γ.st) lsemW (.work .sem) a.lt;rwa[hs]at this
 have hwg:WgAt X w 1 0∧Mode (sumTo gs.size fun a=>cntW (upd Γ.st i (.work .sem) a)) (sumTo gs.size fun a=>lastW (upd Γ.st i (.work .sem) a)) (sumTo gs.size fun a=>lsemW (upd Γ.st i (.work .sem) a)) (ckOf X.Y.cl gs.size Γ.st) 0 0:=by
  have hwg:=h.pr.wg;generalize ckOf X.Y.cl gs.size Γ.st=ck at hm2⊢
  cases hm2 with
  |lst h0 h1 h2=>exact⟨hwg,.sem (by rw[e1];exact h0) (by omega) (by rw[e3,h2])⟩
  |_=>omega
 obtain⟨g',es,hgo,hev,ρ',hρ⟩:=hstep hwg.1
 exact dP h3 h hi hs (by rw[hi0];exact hgo) (.put h3 h.wt.live) (fB hl) (show Kind X k0 i (.work .sem) from⟨a.lo,a.hi⟩) (iF hev (.inr rfl) (by rw[cO];exact hl)) (by rw[aX hev,hd,hi0];exact⟨rfl,.inl hρ⟩) (bu (s:=.work .sem) (by simp) hρ)
  hwg.2 ⟨rfl,rfl,fun k=>⟨rfl,rfl⟩⟩ (fun k e=>by cases e) (.inr (.inl rfl)) (fun _=>meek_S hev (by omega)) (fun _=>.inl rfl) (by simp) (Nat.le_refl _) (by simp[wtS]) (fun _=>rfl)
theorem evok_sem{ev:Nat→Bl}{cls:Prop}{B:Nat}(hB:X.Y.wg<B):∀ e∈semEvents ⟨X.Y.wg,1,none⟩,EvOk X ev cls i B e:=by
 intro e he;simp[semEvents]at he;rcases he with rfl|rfl|rfl|rfl
 ·exact⟨fun x hx=>by simp[MemAct.ofEvent,MemAct.touch?]at hx,trivial,by simp⟩
 ·exact⟨fun x hx=>(by have:=jC hx;subst this;exact⟨.inr (.inl ⟨rfl,_,rfl,.inr rfl⟩),fun hk=>by cases hk⟩),hB,by simp⟩
 ·exact⟨fun x hx=>(by have:=jC hx;subst this;exact⟨.inr (.inl ⟨rfl,_,rfl,.inr rfl⟩),fun hk=>by cases hk⟩),hB,by simp⟩
 ·exact⟨fun x hx=>by simp[MemAct.ofEvent,MemAct.touch?]at hx,trivial,by simp⟩
theorem meek_sem{b:Nat}(hd:0<Deaf t i):Meek t i (semEvents ⟨b,1,none⟩):=by
 intro j e he;obtain⟨d,hd2⟩:∃ d,Deaf t i=d+1:=⟨Deaf t i-1,by omega⟩
 match j with
 |0=>simp[semEvents]at he;subst he;exact .inl rfl
 |1=>simp[semEvents]at he;subst he;right;refine⟨⟨_,_,rfl⟩,?_⟩;rw[hd2];simp[semEvents,deafBehind]
 |2=>simp[semEvents]at he;subst he;right;refine⟨⟨_,_,rfl⟩,?_⟩;rw[hd2];simp[semEvents,deafBehind]
 |3=>simp[semEvents]at he;subst he;exact .inl rfl
 |j+4=>simp[semEvents]at he
theorem deaf_sem{b d:Nat}:deafBehind d (semEvents ⟨b,1,none⟩)=d:=by simp[semEvents,deafBehind]
theorem move_sem(h3:Three X)(h:Inv X k0 Γ gs w t c sv sm B closed)(hi:gs[i]? = some g)(hs:Γ.st i=.work .sem)(hd:Deaf t i=1)(hst:SSem X (Γ.own i) g w)(hi0:(i==0)=false):Good1 X k0 Γ gs w t c i:=by
 obtain⟨hr,hmw,hstep⟩:=hst;have a:=atW h hi hs;have hl:=h.wt.live_lt.2.1;have hpos:=cnt_pos a.lt (st:=Γ.st) lsemW (by rw[hs];rfl);have hm2:=h.pr.pa.mode;have e1:=aO (st:=Γ.st) cntW (s':=.old) a.lt (by rw[hs];rfl);have e2:=aO (st:=Γ.st) lastW (s':=.old) a.lt (by rw[hs];rfl)
 have e3:sumTo gs.size (fun a=>lsemW (upd Γ.st i .old a))+1=sumTo gs.size (fun a=>lsemW (Γ.st a)):=by
  have:=bM (st:=Γ.st) lsemW .old a.lt;rwa[hs]at this
 have hwg:WgAt X w 0 0∧Mode (sumTo gs.size fun a=>cntW (upd Γ.st i .old a)) (sumTo gs.size fun a=>lastW (upd Γ.st i .old a)) (sumTo gs.size fun a=>lsemW (upd Γ.st i .old a)) (ckOf X.Y.cl gs.size Γ.st) 0 1:=by
  have hwg:=h.pr.wg;generalize ckOf X.Y.cl gs.size Γ.st=ck at hm2⊢
  cases hm2 with
  |sem h0 h1 h2=>exact⟨hwg,.up (by rw[e1];exact h0) (by rw[e2];exact h1) (by omega)⟩
  |_=>omega
 obtain⟨g',es,hgo,hev,q,hq⟩:=hstep hwg.1;unfold EvSem at hev;subst hev
 refine dP h3 h hi hs (s':=.old) (ρ':=natRk q) (by rw[hi0];exact hgo) (.put h3 h.wt.live) (fB hl) (show Kind X k0 i .old from by have:=a.k1;have:=a.lo;show i≠0;omega) (evok_sem (by rw[cO];exact hl)) (by rw[deaf_sem,hd];exact⟨hi0,q,rfl,hq⟩) (bF hq.status)
  hwg.2 ⟨rfl,rfl,fun k=>⟨rfl,rfl⟩⟩ (fun k e=>by cases e) (.inr (.inr fun x hx=>?_)) (fun _=>meek_sem (by omega)) (fun _=>.inl rfl) (by simp) (Nat.le_refl _) (by simp[wtS]) (fun _=>rfl)
 have hsx:=h.si _ x hx;have hlt:X.Y.cl<gs.size:=(Array.getElem?_eq_some_iff.1 hx).1;have hk:=h.wt.kind _ hlt;have hrr:=(hsx.rely (h.wt.rr ((GTurn.put (st:=0) (sm:=1) h3 h.wt.live).turn (i:=i) h.wt) (by have:=a.hi;omega)))
 cases hsc:Γ.st X.Y.cl with
 |old =>
  rw[hsc]at hsx;obtain⟨-,q2,-,hq2⟩:=hsx;rw[woken_quitsD hq2];exact bF hq2.status
 |work s=>rw[hsc]at hk;obtain⟨-,k2⟩:=hk;omega
 |main s=>rw[hsc]at hk;exact absurd hk h.wt.split.cl0
 |clos s =>
  rw[hsc]at hrr
  cases s with
  |sem=>rw[wakes_closer hrr hmw hq.status];simp
  |_ =>
   obtain⟨-,hx2|hx2⟩:=hrr
   ·have:=hx2.running fun _ _ _ h=>aB (s:=.clos _) h;rw[woken_run this,this];simp
   ·exact hx2.elim
end
end Ph
namespace Ph
open Conc Co Cl
open Go.ConcN (sumTo upd sumTo_upd upd_ne upd_same RelBy)
section
variable {X:Cx}{k0 n:Nat}{Γ Γ':Gh}{gs gs':Array Goroutine}{w w':World}{t u:Trace}{i:Nat}{g g':Goroutine}{es:Array Event}{c:Nat}{sv sm:Int}{B B':List Nat}{closed:Bool}
theorem iG{a:Addr}{b j r:Nat}(h:RelBy a t j r)(hu:∀ op∈u,Hand X b op):RelBy a (t++u) j r :=
 h.app fun k hk hg hc=>by
  obtain⟨x,hx,-⟩:=hc;obtain⟨op,ho,hox⟩:=touch_of hx;rcases getElem?_append_cases ho with⟨hlt,_⟩|⟨_,hou⟩
  ·omega
  ·rw[(hu op hou).touch]at hox;cases hox
theorem Inv.comm(h:Inv X k0 Γ gs w t c sv sm B closed)(hw3:X.Y.nx≠X.ch∧X.Y.wg≠X.ch)(hsz:gs'.size=gs.size)(hu:∀ op∈u,Hand X w.heap.size op)(C:Chan1 X w w')(hown:∀ j b,Γ'.own j b→Γ.own j b)(hev:Γ'.ev=Γ.ev)
 (hdata:bC w Γ'.data) (hdo:∀ j b,Γ'.own j b→¬ Γ'.data b) (hds:∀ b,Γ'.data b→b≠X.Y.nx∧b≠X.Y.wg∧b≠X.ch) (hk:∀ j,j<gs.size→Kind X k0 j (Γ'.st j))
 (hsit:∀ (j:Nat) x,gs'[j]? = some x→(gs[j]? = some x∧Γ'.st j=Γ.st j∧Γ'.rk j=Γ.rk j∧Γ'.own j=Γ.own j)∨Sit X (j==0) (Γ'.st j) (Γ'.rk j) (Γ'.own j) (Deaf t j) x w')
 (pa':PA X k0 gs.size Γ'.st c sv sm B' closed) (ch':∃ buf s r,ChAt X w' buf closed s r∧Buf X Γ'.data buf B') (pb':PB X Γ'.st gs' sm B' closed) (hrel:∀ j,relW (Γ'.st j)=true→relW (Γ.st j)=true) (hcl:Γ'.st X.Y.cl=.clos .close→Γ.st X.Y.cl=.clos .close)
 (mdt':∀ R dt,Γ'.st 0=.main (.recv R dt)→∀ b,dt b→Γ'.data b):Inv X k0 Γ' gs' w' (t++u) c sv sm B' closed:=by
 have hwt:=h.wt.comm (Γ':=Γ') hu C hown hev hdata hdo hds hk;refine⟨by rw[hsz];exact hwt,fun j x hx=>?_,⟨by rw[hsz];exact pa',?_,?_,ch',pb',?_,mdt'⟩⟩
 ·rw[eX hu];rcases hsit j x hx with⟨h1,h2,h3,h4⟩|h1
  ·rw[h2,h3,h4];exact(h.si j x h1).rely (h.wt.rrc C j)
  ·exact h1
 ·unfold NxAt;rw[C.keep _ hw3.1];exact h.pr.nx
 ·unfold WgAt;rw[C.keep _ hw3.2];exact h.pr.wg
 ·rw[hsz];refine⟨fun j h1 h2 h3 hj=>?_,fun h1 hj=>?_,fun hc=>?_⟩
  ·obtain⟨r,hr⟩:=h.pr.pt.rel j h1 h2 h3 (hrel j hj);exact⟨r,iG hr hu⟩
  ·obtain⟨q,hq⟩:=h.pr.pt.acq h1 (hcl hj);exact⟨q,hq.app fun j r _ _ hr=>iG hr hu⟩
  ·obtain⟨q,pc,hq⟩:=h.pr.pt.cls hc;exact⟨q,pc,hq.app (fun j r _ _ _ hr=>iG hr hu) hwt.nrl fun op hop _=>(hu op hop).touch⟩
theorem mf(w:World)(h:X.ch<w.heap.size)(hl:Live X w)(hw3:X.Y.nx≠X.ch∧X.Y.wg≠X.ch)(d:Nat)(buf:Array Value)(cl:Bool)(s r:Nat):Chan1 X w ((w.at d).setChan X.ch X.n buf cl s r false)∧ChAt X ((w.at d).setChan X.ch X.n buf cl s r false) buf cl s r:=by
 have e:ChAt X ((w.at d).setChan X.ch X.n buf cl s r false) buf cl s r:=by
  unfold ChAt World.setChan World.at
  simp[h]
 refine⟨⟨by simp[World.setChan,World.at],fun x hx=>?_,?_⟩,e⟩
 ·simp only[World.setChan,World.at];rw[Array.getElem?_setIfInBounds_ne (Ne.symm hx)]
 ·obtain⟨⟨c,a⟩,⟨s',m,b⟩,-,e4⟩:=hl;refine⟨⟨c,?_⟩,⟨s',m,?_⟩,⟨_,_,_,_,e⟩,e4⟩
  ·unfold NxAt World.setChan World.at
   rw[Array.getElem?_setIfInBounds_ne hw3.1.symm];exact a
  ·unfold WgAt World.setChan World.at
   rw[Array.getElem?_setIfInBounds_ne hw3.2.symm];exact b
theorem hand_send{b s:Nat}{gg:Nat}{fn:FuncId}{pos:String}(h:X.ch<b):Hand X b {g:=gg,fn,pos,act:=.send X.ch s}:=⟨rfl,by simp,by simp,h,by simp⟩
theorem kN{b s:Nat}{gg:Nat}{fn:FuncId}{pos:String}(h:X.ch<b):Hand X b {g:=gg,fn,pos,act:=.sendDone X.ch s}:=⟨rfl,by simp,by simp,h,by simp⟩
theorem hand_recv{b s cap:Nat}{gg:Nat}{fn:FuncId}{pos:String}(h:X.ch<b):Hand X b {g:=gg,fn,pos,act:=.recv X.ch s cap}:=⟨rfl,by simp,by simp,h,by simp⟩
theorem kQ{b s:Nat}{gg:Nat}{fn:FuncId}{pos:String}(h:X.ch<b):Hand X b {g:=gg,fn,pos,act:=.recvDone X.ch s}:=⟨rfl,by simp,by simp,h,by simp⟩
theorem hand_closed{b:Nat}{gg:Nat}{fn:FuncId}{pos:String}(h:X.ch<b):Hand X b {g:=gg,fn,pos,act:=.recvClosed X.ch}:=⟨rfl,by simp,by simp,h,by simp⟩
theorem bG{i:Nat}{fn:FuncId}{pos:String}:MemOp.ofEvents i fn pos #[]=#[]:=by simp[MemOp.ofEvents]
theorem fA{m:Bool}{s:St}{ρ:Rk}{own:Bl}{d:Nat}(h:Sit X m s ρ own d g w)(hb:g.status=.blocked) :
 (∃k v z D,s=.work (.send k)∧g=parked (Conc.core g) #[scase X.ch v z] .send∧X.pay k v D∧(∀b,D b→own b)∧bC w D∧After X (Conc.core g) w)∨(∃R dt z,s=.main (.recv R dt)∧g=parked (Conc.core g) #[rcase X.ch z] (.recv true)∧∀ w₁,RR X own w w₁→MRecv X R dt own {g with status:=.running} w₁)∨s=.clos .sem∧g.offers=none:=by
 have nr:∀ {D:Array Event→Prop},¬Run X m D (stop X s) ρ own g w:=fun hr=>by
  have:=hr.running fun _ _ _ h=>aB h;rw[hb]at this;cases this
 cases s with
 |old =>
  obtain⟨-,q,-,hq⟩:=h;exact absurd hb (bF hq.status)
 |work s =>
  obtain⟨-,h|h⟩:=h
  ·exact absurd h nr
  ·cases s with
   |send k=>obtain⟨v,z,D,h1,h2⟩:=h;exact .inl ⟨k,v,z,D,rfl,h1,h2⟩
   |_=>exact h.elim
 |clos s =>
  obtain⟨-,h|h⟩:=h
  ·exact absurd h nr
  ·cases s with
   |sem=>exact .inr (.inr ⟨rfl,h.2.1⟩)
   |_=>exact h.elim
 |main s =>
  obtain⟨-,h|h⟩:=h
  ·exact absurd h nr
  ·cases s with
   |recv R dt=>obtain⟨⟨z,h1⟩,h2⟩:=h;exact .inr (.inl ⟨R,dt,z,rfl,h1,h2⟩)
   |_=>exact h.elim
theorem iZ{x:Goroutine}{r:Nat}{b:Bool}(h:x.offers=none):offersAt x r b=[]:=by
 unfold offersAt;rw[h]
 cases x.status<;>rfl
theorem no_recv(h:Inv X k0 Γ gs w t c sv sm B closed)(hi0:i≠0)(hm:∀ x,gs[0]? = some x→x.status≠.blocked):partners (gs.setIfInBounds i ph) X.ch false=[]:=by
 refine partners_nil fun j x hx=>?_;rcases getElem?_stand gs i j x hx with⟨-,rfl⟩|⟨hji,hx⟩
 ·exact offersAt_ph _ _
 ·by_cases hb:x.status=.blocked
  ·rcases fA (h.si j x hx) hb with⟨k,v,z,D,-,h1,-⟩|⟨R,dt,z,h1,-⟩|⟨-,h1⟩
   ·rw[h1];exact offersAt_parked_send' ..
   ·have hk:=h.wt.kind j (Array.getElem?_eq_some_iff.1 hx).1;rw[h1]at hk;simp only[Kind]at hk;subst hk;exact absurd hb (hm x hx)
   ·exact iZ h1
  ·exact offersAt_of_not_blocked hb _ _
structure Hands(X:Cx)(Γ:Gh)(i k:Nat)(w:World)(v:Value)(D:Bl):Prop where
 pay:X.pay k v D
 own:∀ b,D b→Γ.own i b
 ok:bC w D
theorem Hands.data(h:Inv X k0 Γ gs w t c sv sm B closed){k:Nat}{v:Value}{D:Bl}(H:Hands X Γ i k w v D){own':Nat→Bl}(ho:∀ j b,own' j b→Γ.own j b)(hi:∀ b,¬own' i b) :
 bC w (fun b=>Γ.data b∨D b)∧(∀j b,own' j b→¬ (Γ.data b∨D b))∧∀ b,Γ.data b∨D b→b≠X.Y.nx∧b≠X.Y.wg∧b≠X.ch:=by
 refine⟨h.wt.data.or H.ok,fun j b hb hd=>?_,fun b hb=>?_⟩
 ·rcases hd with hd|hd
  ·exact h.wt.dataown j b (ho j b hb) hd
  ·have e:=h.wt.split.own _ _ b (h.wt.ownev _ _ (ho j b hb)) (h.wt.ownev _ _ (H.own b hd));subst e;exact hi b hb
 ·rcases hb with hb|hb
  ·exact h.wt.datash b hb
  ·have:=h.wt.ownev _ _ (H.own b hb);refine⟨?_,?_,?_⟩
   ·rintro rfl;exact h.wt.split.ownNx _ this
   ·rintro rfl;exact h.wt.split.ownWg _ this
   ·rintro rfl;exact h.wt.evch _ this
end
end Ph
