/- Texts of this seat,put together: PhSend2,PhRecv,PhBoth,PhRecv2,PhClos,PhMain. -/
import Derived.Test.YtlaipigilikmbaaGreatDoorMb8
namespace Go.Proofs.YtlaipigilikmbaaGreatDoor
noncomputable section
set_option linter.unusedVariables false
set_option linter.unusedSimpArgs false
namespace Ph
open Conc Co Cl
open Go.ConcN (sumTo upd sumTo_upd upd_ne upd_same RelBy)
section
variable {X:Cx}{k0 n:Nat}{Γ Γ':Gh}{gs gs':Array Goroutine}{w w':World}{t u:Trace}{i:Nat}{g g':Goroutine}{es:Array Event}{c:Nat}{sv sm:Int}{B B':List Nat}{closed:Bool}
theorem fin_send(P:Program)(g:Goroutine)(cs:Array CommCase)(v:Value):g.finishComm P cs .send 0 v false=Conc.served g undef:=rfl
theorem aG{α:Type}{a:Array α}{i j:Nat}{x y:α}(h:(a.setIfInBounds i x)[j]? = some y):(j=i∧y=x)∨(j≠i∧a[j]? = some y):=by
 by_cases hji:i=j
 ·subst hji;by_cases hl:i<a.size
  ·rw[Array.getElem?_setIfInBounds_self_of_lt hl]at h;exact .inl ⟨rfl,(Option.some.inj h).symm⟩
  ·rw[Array.getElem?_eq_none (by simpa using hl)]at h;cases h
 ·rw[Array.getElem?_setIfInBounds_ne hji]at h;exact .inr ⟨fun e=>hji e.symm,h⟩
theorem pa_send(h:Inv X k0 Γ gs w t c sv sm B closed){k:Nat}(a:AtW X k0 gs.size Γ.st i)(hs:Γ.st i=.work (.send k))(hB:B.length<X.n):PA X k0 gs.size (upd Γ.st i (.work .add)) c sv sm (B++[k]) closed:=by
 obtain⟨q1,q2,q3⟩:=a.eqs (.work .add);have e1:=aO (st:=Γ.st) cntW (s':=.work .add) a.lt (by rw[hs];rfl);have e2:=aO (st:=Γ.st) lastW (s':=.work .add) a.lt (by rw[hs];rfl);have e3:=aO (st:=Γ.st) lsemW (s':=.work .add) a.lt (by rw[hs];rfl);have e4:=aO (st:=Γ.st) actW (s':=.work .add) a.lt (by rw[hs];rfl);refine⟨h.pr.pa.clk,by rw[e4];exact h.pr.pa.cb,by rw[q1,e1,e2,e3];exact h.pr.pa.mode,by simp;omega,fun k' hk'=>?_,by rw[q2];exact h.pr.pa.inR,fun j k' hj e=>?_,by rw[q2];exact h.pr.pa.stage,by rw[q3];exact h.pr.pa.cld,by rw[q3,e1];exact h.pr.pa.cas,fun j h1 h2 h3 e=>?_⟩
 ·have e5:sumTo gs.size (fun a=>inflW k' (upd Γ.st i (.work .add) a))+(if k=k' then 1 else 0)=sumTo gs.size (fun a=>inflW k' (Γ.st a)):=by
   have:=bM (st:=Γ.st) (inflW k') (.work .add) a.lt;rwa[hs]at this
  have e6:(B++[k]).count k'=B.count k'+if k=k' then 1 else 0:=by
   rw[List.count_append,List.count_singleton];simp
  rw[q2,e6];have:=h.pr.pa.count k' hk';omega
 ·by_cases hji:j=i
  ·subst hji;rw[upd_same]at e;cases e
  ·rw[upd_ne _ _ hji]at e;exact h.pr.pa.inS j k' hj e
 ·by_cases hji:j=i
  ·subst hji;rw[upd_same]at e;cases e
  ·rw[upd_ne _ _ hji]at e;exact h.pr.pa.pas j h1 h2 h3 e
theorem main_at(h:Inv X k0 Γ gs w t c sv sm B closed):∃ x,gs[0]? = some x:=by
 have h1:=h.wt.k0p;have h2:=h.wt.k0n;exact⟨gs[0],Array.getElem?_eq_getElem (by omega)⟩
theorem sm_send{k:Nat}(hi:i<n)(hs:Γ.st i=.work (.send k)){ρ':Rk}{own':Bl}:Sm X (Γ.set i (.work .add) ρ' own') n c<Sm X Γ n c:=by
 refine sm_set hi (by rw[hs];exact Nat.le_refl _) ?_;rw[hs];simp only[wtS];omega
theorem run_of(W:Walks X){g:Goroutine}(ha:X.LoopA g w)(hi0:(i==0)=false):∃ ρ,Sit X (i==0) (.work .add) ρ noB 0 g w∧g.status=.running:=by
 obtain⟨ρ,hρ⟩:=W.loop g w ha;exact⟨ρ,⟨rfl,.inl (by rw[hi0];exact hρ)⟩,hρ.running fun _ _ _ h=>h.1⟩
theorem send_room(W:Walks X)(h3:Three X)(h:Inv X k0 Γ gs w t c sv sm B closed)(hi:gs[i]? = some g){k:Nat}(hs:Γ.st i=.work (.send k))(hd:Deaf t i=0){v z:Value}{D:Bl}(H:Hands X Γ i k w v D)(hgo:stepG X.P (i==0) g w=.comm (Conc.core g) #[scase X.ch v z] true .send w #[])(haf:After X (Conc.core g) w)
 (hi0:(i==0)=false) (hm:∀ x,gs[0]? = some x→x.status≠.blocked) (hB:B.length<X.n):Good1 X k0 Γ gs w t c i:=by
 intro sl;have a:=atW h hi hs
 have hne:i≠0:=by have:=a.k1;have:=a.lo;omega
 obtain⟨buf,s,r,hch,hbuf⟩:=h.pr.ch
 have hcl:closed=false:=by
  cases hc:closed with
  |false=>rfl
  |true=>exact absurd hs (h.pr.pa.no_work (h.pr.pa.closed_after hc) i a.lt _)
 subst hcl;have hw3:X.Y.nx≠X.ch∧X.Y.wg≠X.ch:=⟨h3.cn.symm,h3.cw.symm⟩;have hl:=h.wt.live_lt.2.2;have hrun:=crowd_send_room (sl:=sl) hi hgo hch (by rw[hbuf.size];exact hB) (no_recv h hne hm);rw[fin_send,bG,Array.empty_append]at hrun;obtain⟨C,hch'⟩:=mf (X:=X) w hl h.wt.live hw3 w.drawn (buf.push v) false (s+1) r;rw[show w.at w.drawn=w from rfl]at C hch';obtain⟨ρ',hsit,hrg⟩:=run_of (i:=i) W (haf _ (C.rr (fun hb=>hb.elim) h.wt.roch)) hi0
 have ho:∀ j b,upd Γ.own i noB j b→Γ.own j b:=fun j b hb=>by
  by_cases hji:j=i
  ·subst hji;rw[upd_same]at hb;exact hb.elim
  ·rwa[upd_ne _ _ hji]at hb
 obtain⟨d1,d2,d3⟩:=H.data h (own':=upd Γ.own i noB) ho fun b hb=>by rw[upd_same]at hb;exact hb
 obtain⟨q1,q2,q3⟩:=a.eqs (.work .add);refine⟨_,{st:=upd Γ.st i (.work .add),rk:=upd Γ.rk i ρ',own:=upd Γ.own i noB,ev:=Γ.ev,data:=fun b=>Γ.data b∨D b},_,_,c,sv,sm,B++[k],false,hrun,?_,lt_sm ?_⟩
 ·refine h.comm hw3 (by simp) (fun op hop=>?_) C ho rfl d1 d2 d3 (fun j hj=>?_) (fun j x hx=>?_) (pa_send h a hs hB) ⟨_,_,_,hch',?_⟩ ⟨fun j x k' hx he hb=>?_,fun x hx hb=>?_,fun x hx hb=>?_⟩ (fun j hj=>?_) (fun e=>?_) fun R dt e b hb=>?_
  ·simp only[List.mem_toArray,List.mem_cons,List.not_mem_nil,or_false]at hop;rcases hop with rfl|rfl
   ·exact hand_send hl
   ·exact kN hl
  ·show Kind X k0 j (upd Γ.st i _ j);by_cases hji:j=i
   ·subst hji;rw[upd_same];exact⟨a.lo,a.hi⟩
   ·rw[upd_ne _ _ hji];exact h.wt.kind j hj
  ·rcases aG hx with⟨rfl,rfl⟩|⟨hji,hx⟩
   ·right;simp only[upd_same];rw[hd];exact hsit
   ·exact .inl ⟨hx,upd_ne _ _ hji,upd_ne _ _ hji,upd_ne _ _ hji⟩
  ·refine⟨by simp[hbuf.size],fun j v' k' h1 h2=>?_,fun k' hk'=>?_⟩
   ·rw[Array.getElem?_push]at h1;by_cases hj:j=buf.size
    ·rw[if_pos hj]at h1;cases h1;rw[List.getElem?_append_right (by rw[←hbuf.size];omega)]at h2;rw[hj,hbuf.size]at h2;simp at h2;subst h2;exact⟨D,H.pay,fun b hb=>.inr hb⟩
    ·rw[if_neg hj]at h1;have hjl:=(Array.getElem?_eq_some_iff.1 h1).1;rw[List.getElem?_append_left (by rw[←hbuf.size];exact hjl)]at h2;obtain⟨D',hp,hD'⟩:=hbuf.pay j v' k' h1 h2;exact⟨D',hp,fun b hb=>.inl (hD' b hb)⟩
   ·rcases List.mem_append.1 hk' with hk'|hk'
    ·exact hbuf.lt k' hk'
    ·simp at hk';subst hk';exact h.pr.pa.inS i _ a.lt hs
  ·rcases aG hx with⟨rfl,rfl⟩|⟨hji,hx⟩
   ·rw[hrg]at hb;cases hb
   ·have he':Γ.st j=.work (.send k'):=by rw[←he];exact(upd_ne _ _ hji).symm
    have:=h.pr.pb.full j x k' hx he' hb;omega
  ·rcases aG hx with⟨e,rfl⟩|⟨hji,hx⟩
   ·exact absurd e.symm hne
   ·exact absurd hb (hm x hx)
  ·rcases aG hx with⟨e,rfl⟩|⟨hji,hx⟩
   ·have:=a.hi;omega
   ·exact h.pr.pb.cblk x hx hb
  ·change relW (upd Γ.st i _ j)=true at hj
   by_cases hji:j=i
   ·subst hji;rw[upd_same]at hj;cases hj
   ·rwa[upd_ne _ _ hji]at hj
  ·exact q3.symm.trans e
  ·exact .inl (h.pr.mdt R dt (q2.symm.trans e) b hb)
 ·rw[show(gs.setIfInBounds i (Conc.served (Conc.core g) undef)).size=gs.size by simp];exact sm_send (ρ':=ρ') (own':=noB) a.lt hs
theorem bits_set{x:Goroutine}(hi:gs[i]? = some g)(hg:g.status=.running)(hx:x.status≠.running):Bits (gs.setIfInBounds i x)<Bits gs:=by
 have hlt:i<gs.size:=(Array.getElem?_eq_some_iff.1 hi).1
 have e:∀ a,runB (gs.setIfInBounds i x)[a]? = upd (fun a=>runB gs[a]?) i 0 a:=by
  intro a;by_cases ha:a=i
  ·subst ha;rw[upd_same,Array.getElem?_setIfInBounds_self_of_lt hlt];simp[runB,hx]
  ·rw[upd_ne _ _ ha,Array.getElem?_setIfInBounds_ne (Ne.symm ha)]
 have h0:sumTo gs.size (upd (fun a=>runB gs[a]?) i 0)+runB gs[i]? = sumTo gs.size (fun a=>runB gs[a]?)+0:=sumTo_upd (fun a=>runB gs[a]?) 0 id hlt;rw[hi]at h0;unfold Bits;rw[show(gs.setIfInBounds i x).size=gs.size by simp,Go.ConcN.sumTo_congr fun a _=>e a]
 have e2:runB (some g)=1:=by simp[runB,hg]
 omega
theorem lt_bits{gs':Array Goroutine}(hs:gs'.size=gs.size)(h:Bits gs'<Bits gs):Lt (mu X Γ gs' c) (mu X Γ gs c):=by
 unfold mu;rw[hs];exact Prod.Lex.right _ (Prod.Lex.right _ h)
theorem send_waits(h3:Three X)(h:Inv X k0 Γ gs w t c sv sm B closed)(hi:gs[i]? = some g)(hr:g.status=.running){k:Nat}(hs:Γ.st i=.work (.send k))(hd:Deaf t i=0){v z:Value}{D:Bl}(H:Hands X Γ i k w v D)(hgo:stepG X.P (i==0) g w=.comm (Conc.core g) #[scase X.ch v z] true .send w #[])(haf:After X (Conc.core g) w)
 (hi0:(i==0)=false) (hm:∀ x,gs[0]? = some x→x.status≠.blocked) (hB:¬ B.length<X.n):Good1 X k0 Γ gs w t c i:=by
 intro sl;have a:=atW h hi hs
 have hne:i≠0:=by have:=a.k1;have:=a.lo;omega
 obtain⟨buf,s,r,hch,hbuf⟩:=h.pr.ch
 have hcl:closed=false:=by
  cases hc:closed with
  |false=>rfl
  |true=>exact absurd hs (h.pr.pa.no_work (h.pr.pa.closed_after hc) i a.lt _)
 subst hcl;have hb:=h.pr.pa.blen;have hw3:X.Y.nx≠X.ch∧X.Y.wg≠X.ch:=⟨h3.cn.symm,h3.cw.symm⟩
 have hrun:=crowd_waits (sl:=sl) hi hgo (fun cc hcc=>by
  simp at hcc;subst hcc
  exact ways_send_none (v:=v) (z:=z) hch (by rw[hbuf.size];omega) (no_recv h hne hm))
 rw[bG]at hrun;refine⟨_,Γ,_,_,c,sv,sm,B,false,hrun,?_,lt_bits (by simp) (bits_set hi hr (by simp[parked]))⟩;refine h.comm hw3 (by simp) (fun op hop=>by simp at hop) ⟨rfl,fun _ _=>rfl,h.wt.live⟩ (fun _ _ hb=>hb) rfl h.wt.data h.wt.dataown h.wt.datash h.wt.kind (fun j x hx=>?_) h.pr.pa h.pr.ch ⟨fun j x k' hx he hb=>?_,fun x hx hb=>?_,fun x hx hb=>?_⟩ (fun _ h=>h) id h.pr.mdt
 ·rcases aG hx with⟨rfl,rfl⟩|⟨hji,hx⟩
  ·right;rw[hs,hd];exact⟨rfl,.inr ⟨v,z,D,rfl,H.pay,H.own,H.ok,haf⟩⟩
  ·exact .inl ⟨hx,rfl,rfl,rfl⟩
 ·omega
 ·rcases aG hx with⟨e,rfl⟩|⟨hji,hx⟩
  ·exact absurd e.symm hne
  ·exact absurd hb (hm x hx)
 ·rcases aG hx with⟨e,rfl⟩|⟨hji,hx⟩
  ·have:=a.hi;omega
  ·exact h.pr.pb.cblk x hx hb
end
end Ph
namespace Ph
open Conc Co Cl
open Go.ConcN (sumTo upd sumTo_upd upd_ne upd_same RelBy)
section
variable {X:Cx}{k0 n:Nat}{st:Nat→St}{Γ Γ':Gh}{gs gs':Array Goroutine}{w w':World}{t u:Trace}{i:Nat}{g g':Goroutine}{es:Array Event}{c:Nat}{sv sm:Int}{B B':List Nat}{closed:Bool}
theorem pa_send'(p:PA X k0 n st c sv sm B closed){k:Nat}(a:AtW X k0 n st i)(hs:st i=.work (.send k))(hB:B.length<X.n):PA X k0 n (upd st i (.work .add)) c sv sm (B++[k]) closed:=by
 obtain⟨q1,q2,q3⟩:=a.eqs (.work .add);have e1:=aO (st:=st) cntW (s':=.work .add) a.lt (by rw[hs];rfl);have e2:=aO (st:=st) lastW (s':=.work .add) a.lt (by rw[hs];rfl);have e3:=aO (st:=st) lsemW (s':=.work .add) a.lt (by rw[hs];rfl);have e4:=aO (st:=st) actW (s':=.work .add) a.lt (by rw[hs];rfl);refine⟨p.clk,by rw[e4];exact p.cb,by rw[q1,e1,e2,e3];exact p.mode,by simp;omega,fun k' hk'=>?_,by rw[q2];exact p.inR,fun j k' hj e=>?_,by rw[q2];exact p.stage,by rw[q3];exact p.cld,by rw[q3,e1];exact p.cas,fun j h1 h2 h3 e=>?_⟩
 ·have e5:sumTo n (fun a=>inflW k' (upd st i (.work .add) a))+(if k=k' then 1 else 0)=sumTo n (fun a=>inflW k' (st a)):=by
   have:=bM (st:=st) (inflW k') (.work .add) a.lt;rwa[hs]at this
  have e6:(B++[k]).count k'=B.count k'+if k=k' then 1 else 0:=by
   rw[List.count_append,List.count_singleton];simp
  rw[q2,e6];have:=p.count k' hk';omega
 ·by_cases hji:j=i
  ·subst hji;rw[upd_same]at e;cases e
  ·rw[upd_ne _ _ hji]at e;exact p.inS j k' hj e
 ·by_cases hji:j=i
  ·subst hji;rw[upd_same]at e;cases e
  ·rw[upd_ne _ _ hji]at e;exact p.pas j h1 h2 h3 e
theorem pa_recv{k:Nat}(p:PA X k0 n st c sv sm (k::B) closed){R:List Nat}{dt dt':Bl}(h0:st 0=.main (.recv R dt))(hn:0<n)(hcl:X.Y.cl≠0)(hk:k<X.L):PA X k0 n (upd st 0 (.main (.recv (k::R) dt'))) c sv sm B closed:=by
 have q1:upd st 0 (.main (.recv (k::R) dt')) X.Y.cl=st X.Y.cl:=upd_ne _ _ hcl
 have q2:ckOf X.Y.cl n (upd st 0 (.main (.recv (k::R) dt')))=ckOf X.Y.cl n st:=by
  unfold ckOf;rw[q1]
 have e1:=aO (st:=st) cntW (s':=.main (.recv (k::R) dt')) hn (by rw[h0];rfl);have e2:=aO (st:=st) lastW (s':=.main (.recv (k::R) dt')) hn (by rw[h0];rfl);have e3:=aO (st:=st) lsemW (s':=.main (.recv (k::R) dt')) hn (by rw[h0];rfl);have e4:=aO (st:=st) actW (s':=.main (.recv (k::R) dt')) hn (by rw[h0];rfl)
 refine⟨p.clk,by rw[e4];exact p.cb,by rw[q2,e1,e2,e3];exact p.mode,by have:=p.blen;simp at this;omega,fun k' hk'=>?_,fun k' hk'=>?_,fun j k' hj e=>?_,?_,by rw[q1];exact p.cld,by rw[q1,e1];exact p.cas,fun j h1 h2 h3 e=>p.pas j h1 h2 h3 (by
  by_cases hj0:j=0
  ·subst hj0;rw[h0];rfl
  ·rwa[upd_ne _ _ hj0]at e)⟩
 ·have e5:=aO (st:=st) (inflW k') (s':=.main (.recv (k::R) dt')) hn (by rw[h0];rfl);have:=p.count k' hk';rw[h0]at this;rw[upd_same,e5]
  change R.count k'+(k::B).count k'+_=_ at this
  show(k::R).count k'+B.count k'+_=_;rw[List.count_cons]at this⊢;omega
 ·rw[upd_same]at hk'
  change k'∈k::R at hk'
  rcases List.mem_cons.1 hk' with rfl|hk'
  ·exact hk
  ·exact p.inR k' (by rw[h0];exact hk')
 ·by_cases hj0:j=0
  ·subst hj0;rw[upd_same]at e;cases e
  ·rw[upd_ne _ _ hj0]at e;exact p.inS j k' hj e
 ·rw[upd_same];have:=p.stage;rw[h0]at this;exact this
theorem mJ:∀ m,sumTo m (fun _=>0)=0
 |0=>rfl
 |m+1=>by simp only[sumTo];rw[mJ m]
theorem sum_one(x:Nat):∀ m,sumTo m (fun k=>if x=k then 1 else 0)=if x<m then 1 else 0
 |0=>by simp[sumTo]
 |m+1=>by
  simp only[sumTo];rw[sum_one x m];by_cases h1:x<m
  ·rw[if_pos h1,if_neg (by omega),if_pos (by omega)]
  ·by_cases h2:x=m
   ·rw[if_neg h1,if_pos h2,if_pos (by omega)]
   ·rw[if_neg h1,if_neg h2,if_neg (by omega)]
theorem sum_add(f f':Nat→Nat):∀ m,sumTo m (fun k=>f k+f' k)=sumTo m f+sumTo m f'
 |0=>rfl
 |m+1=>by simp only[sumTo];rw[sum_add f f' m];omega
theorem count_len{L:Nat}:∀ R:List Nat,(∀k∈R,k<L)→sumTo L (fun k=>R.count k)=R.length
 |[],_=>by simp[mJ]
 |x::R,h=>by
  have e:(fun k=>(x::R).count k)=fun k=>R.count k+if x=k then 1 else 0:=by
   funext k
   rw[List.count_cons];simp
  rw[e,sum_add,count_len R fun k hk=>h k (by simp[hk]),sum_one,if_pos (h x (by simp))];rfl
theorem got_le(p:PA X k0 n st c sv sm B closed):(gotOf (st 0)).length≤X.L:=by
 rw[←count_len _ p.inR]
 have:=Go.ConcN.sumTo_le (f:=fun k=>(gotOf (st 0)).count k) (c:=1) (j:=X.L) fun k hk=>by
  have:=p.count k hk;by_cases h1:k<c
  ·rw[if_pos h1]at this;omega
  ·rw[if_neg h1]at this;omega
 omega
theorem sm_recv(hn:0<n){R:List Nat}{dt dt':Bl}(h0:Γ.st 0=.main (.recv R dt)){k:Nat}(hl:(k::R).length≤X.L){ρ':Rk}{own':Bl}:Sm X (Γ.set 0 (.main (.recv (k::R) dt')) ρ' own') n c<Sm X Γ n c:=by
 refine sm_set hn (by rw[h0];exact Nat.le_refl _) ?_;rw[h0];simp only[wtS,List.length_cons]at hl⊢;omega
theorem run_recv(W:Walks X){R:List Nat}{dt own:Bl}{g:Goroutine}(ha:X.RecA R dt own g w)(hd:bC w dt):∃ ρ,Sit X true (.main (.recv R dt)) ρ own 0 g w∧g.status=.running:=by
 obtain⟨ρ,hρ⟩:=W.recv R dt own g w ha hd;exact⟨ρ,⟨rfl,.inl hρ⟩,hρ.running fun _ _ _ h=>h.1⟩
theorem lJ(P:Program)(g:Goroutine)(cs:Array CommCase)(v:Value)(ok:Bool):g.finishComm P cs (.recv true) 0 v ok=Conc.served g (recvd true v ok):=finishComm_recv ..
theorem send_meets(W:Walks X)(h3:Three X)(hn1:1≤X.n)(h:Inv X k0 Γ gs w t c sv sm B closed)(hi:gs[i]? = some g){k:Nat}(hs:Γ.st i=.work (.send k))(hd:Deaf t i=0){v z:Value}{D:Bl}(H:Hands X Γ i k w v D)(hgo:stepG X.P (i==0) g w=.comm (Conc.core g) #[scase X.ch v z] true .send w #[])(haf:After X (Conc.core g) w)
 (hi0:(i==0)=false) {x0:Goroutine} (hx0:gs[0]? = some x0) (hb0:x0.status=.blocked):Good1 X k0 Γ gs w t c i:=by
 intro sl;have a:=atW h hi hs
 have hne:i≠0:=by have:=a.k1;have:=a.lo;omega
 obtain⟨rfl,rfl,-⟩:=h.pr.pb.mblk x0 hx0 hb0;have hp0:0<gs.size:=(Array.getElem?_eq_some_iff.1 hx0).1;have hcl0:=h.wt.split.cl0;have hk0:=h.wt.kind 0 hp0
 obtain⟨R,dt,z0,s0,hg0,hcont⟩:∃ R dt z,Γ.st 0=.main (.recv R dt)∧x0=parked (Conc.core x0) #[rcase X.ch z] (.recv true)∧∀ w₁,RR X (Γ.own 0) w w₁→MRecv X R dt (Γ.own 0) {x0 with status:=.running} w₁:=by
  rcases fA (h.si 0 x0 hx0) hb0 with⟨k,v,z,D,h1,-⟩|h1|⟨h1,-⟩
  ·rw[h1]at hk0;have:=hk0.1;have:=a.k1;omega
  ·exact h1
  ·rw[h1]at hk0;exact absurd hk0.symm hcl0
 obtain⟨buf,s,r,hch,hbuf⟩:=h.pr.ch
 have hb0':buf=#[]:=by
  have:=hbuf.size;simpa using this
 subst hb0';have hw3:X.Y.nx≠X.ch∧X.Y.wg≠X.ch:=⟨h3.cn.symm,h3.cw.symm⟩;have hl:=h.wt.live_lt.2.2
 have hpart:partners (gs.setIfInBounds i ph) X.ch false=[(0,0)]:=by
  have hst0:=stand_get (i:=i) (Ne.symm hne) hx0;rw[partners_one hst0 fun j x hj hx=>?_]
  ·rw[hg0,offersAt_parked_recv,if_pos rfl];rfl
  ·rcases getElem?_stand gs i j x hx with⟨-,rfl⟩|⟨hji,hx⟩
   ·exact offersAt_ph _ _
   ·by_cases hb:x.status=.blocked
    ·rcases fA (h.si j x hx) hb with⟨k,v,z,D,-,h1,-⟩|⟨R,dt,z,h1,-⟩|⟨-,h1⟩
     ·rw[h1];exact offersAt_parked_send' ..
     ·have hk:=h.wt.kind j (Array.getElem?_eq_some_iff.1 hx).1;rw[h1]at hk;exact absurd hk hj
     ·exact iZ h1
    ·exact offersAt_of_not_blocked hb _ _
 have hrun:=crowd_send_meets (sl:=sl) hi hgo hch (Ne.symm hne) (by rw[hx0];exact congrArg some hg0) hpart;rw[fin_send,lJ,bG,Array.empty_append]at hrun;obtain⟨C,hch'⟩:=mf (X:=X) w hl h.wt.live hw3 w.drawn #[] false (s+1) (r+1);rw[show w.at w.drawn=w from rfl]at C hch';obtain⟨ρ',hsit,hrg⟩:=run_of (i:=i) W (haf _ (C.rr (fun hb=>hb.elim) h.wt.roch)) hi0
 have ho:∀ j b,upd Γ.own i noB j b→Γ.own j b:=fun j b hb=>by
  by_cases hji:j=i
  ·subst hji;rw[upd_same]at hb;exact hb.elim
  ·rwa[upd_ne _ _ hji]at hb
 obtain⟨d1,d2,d3⟩:=H.data h (own':=upd Γ.own i noB) ho fun b hb=>by rw[upd_same]at hb;exact hb
 have hkL:=h.pr.pa.inS i k a.lt hs;obtain⟨-,z1,-,hgot,-⟩:=hcont w (.refl _ _ _)
 have hdt:bC ((w.at w.drawn).setChan X.ch X.n #[] false (s+1) (r+1) false) (fun b=>dt b∨D b):=by
  refine bC.keep (w:=w) (fun b hb=>d1 b (hb.imp (h.pr.mdt R dt s0 b) id)) fun b hb=>C.keep b ?_;exact(d3 b (hb.imp (h.pr.mdt R dt s0 b) id)).2.2
 obtain⟨ρ0,hsit0,hrg0⟩:=run_recv W (hgot k v D _ (h.wt.rrc C 0) H.pay hkL) hdt;have p1:=pa_send' h.pr.pa a hs hn1;have p2:=pa_recv (dt':=fun b=>dt b∨D b) p1 (R:=R) (dt:=dt) (by rw[upd_ne _ _ (Ne.symm hne)];exact s0) hp0 hcl0 hkL;have hlen:=got_le p2;rw[upd_same]at hlen;refine⟨_,{st:=upd (upd Γ.st i (.work .add)) 0 (.main (.recv (k::R) fun b=>dt b∨D b)),rk:=upd (upd Γ.rk i ρ') 0 ρ0,own:=upd Γ.own i noB,ev:=Γ.ev,data:=fun b=>Γ.data b∨D b},_,_,c,sv,sm,[],false,hrun,?_,lt_sm ?_⟩
 ·refine h.comm hw3 (by simp) (fun op hop=>?_) C ho rfl d1 d2 d3 (fun j hj=>?_) (fun j x hx=>?_) p2 ⟨_,_,_,hch',rfl,fun j v k h1=>by simp at h1,fun k hk=>by cases hk⟩ ⟨fun j x k' hx he hb=>?_,fun x hx hb=>?_,fun x hx hb=>?_⟩ (fun j hj=>?_) (fun e=>?_) fun R' dt' e b hb=>?_
  ·simp only[List.mem_toArray,List.mem_cons,List.not_mem_nil,or_false]at hop;rcases hop with rfl|rfl|rfl|rfl
   ·exact hand_send hl
   ·exact hand_recv hl
   ·exact kN hl
   ·exact kQ hl
  ·show Kind X k0 j (upd (upd Γ.st i _) 0 _ j);by_cases hj0:j=0
   ·subst hj0;rw[upd_same];rfl
   ·rw[upd_ne _ _ hj0];by_cases hji:j=i
    ·subst hji;rw[upd_same];exact⟨a.lo,a.hi⟩
    ·rw[upd_ne _ _ hji];exact h.wt.kind j hj
  ·rcases aG hx with⟨rfl,rfl⟩|⟨hji,hx⟩
   ·right;simp only[upd_same,upd_ne _ _ hne];rw[hd];exact hsit
   ·rcases aG hx with⟨rfl,rfl⟩|⟨hj0,hx⟩
    ·right;simp only[upd_same]
     have hd0:Deaf t 0=0:=by
      have:=h.si 0 x0 hx0;rw[s0]at this;exact this.1
     rw[hd0,upd_ne _ _ (Ne.symm hne)];exact hsit0
    ·exact .inl ⟨hx,by simp only[upd_ne _ _ hj0,upd_ne _ _ hji],by simp only[upd_ne _ _ hj0,upd_ne _ _ hji],upd_ne _ _ hji⟩
  ·change upd (upd Γ.st i _) 0 _ j=_ at he
   rcases aG hx with⟨rfl,rfl⟩|⟨hji,hx⟩
   ·rw[hrg]at hb;cases hb
   ·rcases aG hx with⟨rfl,rfl⟩|⟨hj0,hx⟩
    ·cases (show GoStatus.running=GoStatus.blocked from hb)
    ·rw[upd_ne _ _ hj0,upd_ne _ _ hji]at he;exact h.pr.pb.full j x k' hx he hb
  ·rcases aG hx with⟨e,rfl⟩|⟨hji,hx⟩
   ·exact absurd e.symm hne
   ·rcases aG hx with⟨-,rfl⟩|⟨hj0,hx⟩
    ·cases (show GoStatus.running=GoStatus.blocked from hb)
    ·exact absurd rfl hj0
  ·rcases aG hx with⟨e,rfl⟩|⟨hji,hx⟩
   ·have:=a.hi;omega
   ·rcases aG hx with⟨e,rfl⟩|⟨hj0,hx⟩
    ·exact absurd e hcl0
    ·exact h.pr.pb.cblk x hx hb
  ·change relW (upd (upd Γ.st i _) 0 _ j)=true at hj
   by_cases hj0:j=0
   ·subst hj0;rw[upd_same]at hj;cases hj
   ·rw[upd_ne _ _ hj0]at hj;by_cases hji:j=i
    ·subst hji;rw[upd_same]at hj;cases hj
    ·rwa[upd_ne _ _ hji]at hj
  ·change upd (upd Γ.st i _) 0 _ X.Y.cl=_ at e
   rwa[upd_ne _ _ hcl0,upd_ne _ _ (by have:=a.hi;omega)]at e
  ·replace e:upd (upd Γ.st i (.work .add)) 0 (.main (.recv (k::R) fun b=>dt b∨D b)) 0=.main (.recv R' dt'):=e;rw[upd_same]at e;injection e with e;injection e with e1 e2;subst e2;exact hb.imp (h.pr.mdt R dt s0 b) id
 ·rw[show((gs.setIfInBounds 0 (Conc.served (Conc.core x0) (recvd true v true))).setIfInBounds i (Conc.served (Conc.core g) undef)).size=gs.size by simp];have e1:=sm_send (X:=X) (c:=c) (ρ':=ρ') (own':=noB) a.lt hs;have e2:=sm_recv (X:=X) (c:=c) (n:=gs.size) (Γ:=Γ.set i (.work .add) ρ' noB) (R:=R) (dt:=dt) (dt':=fun b=>dt b∨D b) (k:=k) (ρ':=ρ0) (own':=noB) hp0 (by show upd Γ.st i (.work .add) 0=_;rw[upd_ne _ _ (Ne.symm hne)];exact s0) hlen;exact Nat.lt_trans e2 e1
end
end Ph
namespace Ph
open Conc Co Cl
theorem choose_some(P:Program)(s:String){m:Nat}(hm:0<m)(w:World):∃ b d,b<m∧(Go.choose (.extern s m)).run P w=.ok b (w.at d):=by
 by_cases hf:(Question.extern s m).forced=true
 ·exact⟨0,w.drawn,hm,by show(if _ then _ else _)=_;rw[if_pos hf];rfl⟩
 ·refine⟨(Question.extern s m).cut (w.tape w.drawn (.extern s m)),w.drawn+1,?_,by show(if _ then _ else _)=_;rw[if_neg hf];rfl⟩;simp only[Question.cut];rw[if_neg (by omega)];exact Nat.mod_lt _ hm
section
variable {P:Program}{gs:Array Goroutine}{w:World}{sl:Option (Nat×Nat)}{i:Nat}{g:Goroutine}{c cap s r:Nat}{buf:Array Value}{closed tm:Bool}{z:Value}
theorem crowd_recv_both(hi:gs[i]? = some g)(h:stepG P (i==0) g w=.comm (Conc.core g) #[rcase c z] true (.recv true) w #[])(hc:w.heap[c]? = some (.chan cap buf closed s r tm))(hsome:0<buf.size)
 (hne:partners (gs.setIfInBounds i ph) c true≠[]) (hall:∀ j k,(j,k)∈partners (gs.setIfInBounds i ph) c true→k=0∧j≠i∧∃ gj vj zj,gs[j]? = some (parked gj #[scase c vj zj] .send)) :
 ∃(j:Nat) (gj:Goroutine) (vj zj:Value) (d:Nat) (ops:Array MemOp),j≠i∧gs[j]? = some (parked gj #[scase c vj zj] .send) ∧
  runT P (crowd gs w sl) i=(.next (crowd ((gs.setIfInBounds j (Conc.served gj undef)).setIfInBounds i (Conc.served (Conc.core g) (recvd true (buf.getD 0 undef) true))) ((w.at d).setChan c cap ((buf.extract 1 buf.size).push vj) closed (s+1) (r+1) tm) sl),ops) ∧
  ∀op∈ops,op.act=.recv c r cap∨op.act=.recvDone c r∨op.act=.send c s∨op.act=.sendDone c s:=by
 obtain⟨b,d,hb,hch⟩:=choose_some P "which waiting goroutine is the partner" (List.length_pos_iff.2 hne) w;obtain⟨⟨j,k⟩,hjk⟩:∃ p,(partners (gs.setIfInBounds i ph) c true)[b]? = some p:=⟨_,List.getElem?_eq_getElem hb⟩;obtain⟨rfl,hij,gj,vj,zj,hj⟩:=hall j k (List.mem_of_getElem? hjk);have hj':=stand_get (i:=i) hij hj;have hfp:=finishPartner_at P (gs.setIfInBounds i ph) hj' (cs:=#[scase c vj zj]) (sh:=.send) rfl 0 undef
 have hov:offeredValue (gs.setIfInBounds i ph) j 0=vj:=by simp[offeredValue,hj',parked,scase]
 have hgd:(partners (gs.setIfInBounds i ph) c true).getD b (0,0)=(j,0):=by rw[List.getD_eq_getElem?_getD,hjk];rfl
 have hgj:(gs.setIfInBounds i ph).getD j default=parked gj #[scase c vj zj] .send:=by rw[Array.getD_eq_getD_getElem?,hj'];rfl
 refine⟨j,gj,vj,zj,d,#[{g:=i,fn:=(Conc.core g).frame.fn,pos:=(Conc.core g).frame.place,act:=.recv c r cap},{g:=i,fn:=(Conc.core g).frame.fn,pos:=(Conc.core g).frame.place,act:=.recvDone c r},{g:=j,fn:=gj.frame.fn,pos:=gj.frame.place,act:=.send c s},{g:=j,fn:=gj.frame.fn,pos:=gj.frame.place,act:=.sendDone c s}],hij,hj,?_,?_⟩
 ·rw[runT_crowd_comm hi h,bG,Array.empty_append]
  have hps:∃ p ps,partners (gs.setIfInBounds i ph) c true=p::ps:=by
   cases hp:partners (gs.setIfInBounds i ph) c true with
   |nil=>exact absurd hp hne
   |cons p ps=>exact⟨p,ps,rfl⟩
  obtain⟨p,ps,hps⟩:=hps;rw[hps]at hch hgd hjk;simp[choose,Sem.run,Question.forced]at hch;have hfr:∀ (x:Goroutine),(parked x #[scase c vj zj] .send).frame=x.frame:=fun _=>rfl
  have hgj2:(gs.setIfInBounds i ph)[j]?.getD default=parked gj #[scase c vj zj] .send:=by rw[hj'];rfl
  have hways:ways w (gs.setIfInBounds i ph) (rcase c z)=[.buffer]:=by simp[ways,rcase,hc,hsome]
  have hready:((#[rcase c z].zipIdx.toList.map fun(x,k)=>(k,x,ways w (gs.setIfInBounds i ph) x)).filter fun(_,_,ws)=>!ws.isEmpty)=[(0,rcase c z,[.buffer])]:=by
   simp[hways]
  unfold communicate;simp only[hready,List.isEmpty_cons,Bool.false_eq_true,if_false];simp[choose,Sem.run,Question.forced,bind,Sem.bind,pure,rcase,hc,hps];rw[hch];simp only[hjk,Option.getD_some,hov,hfp,hgj2,hfr,lJ,finishComm_parked,set_stand2];exact⟨rfl,trivial⟩
 ·intro op hop;simp only[List.mem_toArray,List.mem_cons,List.not_mem_nil,or_false]at hop;rcases hop with rfl|rfl|rfl|rfl<;>simp
end
end Ph
namespace Ph
open Conc Co Cl
open Go.ConcN (sumTo upd sumTo_upd upd_ne upd_same RelBy)
section
variable {X:Cx}{k0 n:Nat}{st:Nat→St}{Γ Γ':Gh}{gs gs':Array Goroutine}{w w':World}{t u:Trace}{i:Nat}{g g':Goroutine}{es:Array Event}{c:Nat}{sv sm:Int}{B B':List Nat}{closed:Bool}{R:List Nat}{dt:Bl}{z:Value}
theorem senders(h:Inv X k0 Γ gs w t c sv sm B closed){j k:Nat}(hp:(j,k)∈partners (gs.setIfInBounds 0 ph) X.ch true):k=0∧j≠0∧∃ x kk v z D,gs[j]? = some x∧x.status=.blocked∧Γ.st j=.work (.send kk)∧x=parked (Conc.core x) #[scase X.ch v z] .send∧Hands X Γ j kk w v D∧After X (Conc.core x) w:=by
 obtain⟨x,hx,hk⟩:=mem_partners.1 hp;rcases getElem?_stand gs 0 j x hx with⟨-,rfl⟩|⟨hj0,hx⟩
 ·rw[offersAt_ph]at hk;cases hk
 ·by_cases hb:x.status=.blocked
  ·rcases fA (h.si j x hx) hb with⟨kk,v,z,D,h1,h2,h3,h4,h5,h6⟩|⟨R,dt,z,h1,h2,-⟩|⟨-,h1⟩
   ·have hk0:k=0:=by
     rw[h2,offersAt_parked_send,if_pos rfl]at hk;simpa using hk
    exact⟨hk0,hj0,x,kk,v,z,D,hx,hb,h1,h2,⟨h3,h4,h5⟩,h6⟩
   ·rw[h2,offersAt_parked_recv']at hk;cases hk
   ·rw[iZ h1]at hk;cases hk
  ·rw[offersAt_of_not_blocked hb]at hk;cases hk
theorem buf_tail{dt':Bl}{buf:Array Value}{k:Nat}(h:Buf X dt' buf (k::B)):Buf X dt' (buf.extract 1 buf.size) B∧0<buf.size∧∃ D,X.pay k (buf.getD 0 undef) D∧∀ b,D b→dt' b:=by
 have hs:=h.size;simp only[List.length_cons]at hs;refine⟨⟨by simp;omega,fun j v k' h1 h2=>?_,fun k' hk'=>h.lt k' (by simp[hk'])⟩,by omega,?_⟩
 ·rw[Array.getElem?_extract]at h1;split at h1
  ·rw[Nat.add_comm 1 j]at h1;exact h.pay (j+1) v k' h1 (by simpa using h2)
  ·cases h1
 ·have e:buf[0]? = some (buf.getD 0 undef):=by
   rw[Array.getD_eq_getD_getElem?,Array.getElem?_eq_getElem (by omega)];rfl
  exact h.pay 0 _ k e rfl
theorem buf_push{dt' dt2:Bl}{buf:Array Value}{k:Nat}{v:Value}{D:Bl}(h:Buf X dt' buf B)(hp:X.pay k v D)(hD:∀ b,D b→dt2 b)(hs:∀ b,dt' b→dt2 b)(hk:k<X.L):Buf X dt2 (buf.push v) (B++[k]):=by
 refine⟨by simp[h.size],fun j v' k' h1 h2=>?_,fun k' hk'=>?_⟩
 ·rw[Array.getElem?_push]at h1;by_cases hj:j=buf.size
  ·rw[if_pos hj]at h1;cases h1;rw[List.getElem?_append_right (by rw[←h.size];omega)]at h2;rw[hj,h.size]at h2;simp at h2;subst h2;exact⟨D,hp,hD⟩
  ·rw[if_neg hj]at h1;have hjl:=(Array.getElem?_eq_some_iff.1 h1).1;rw[List.getElem?_append_left (by rw[←h.size];exact hjl)]at h2;obtain⟨D',hp',hD'⟩:=h.pay j v' k' h1 h2;exact⟨D',hp',fun b hb=>hs b (hD' b hb)⟩
 ·rcases List.mem_append.1 hk' with hk'|hk'
  ·exact h.lt k' hk'
  ·simp at hk';subst hk';exact hk
theorem recv_waits(h3:Three X)(hn1:1≤X.n)(h:Inv X k0 Γ gs w t c sv sm [] false)(hi:gs[0]? = some g)(s0:Γ.st 0=.main (.recv R dt))(hd:Deaf t 0=0)(hst:∀ w₁,RR X (Γ.own 0) w w₁→MRecv X R dt (Γ.own 0) g w₁)(hgo:stepG X.P true g w=.comm (Conc.core g) #[rcase X.ch z] true (.recv true) w #[]):Good1 X k0 Γ gs w t c 0:=by
 intro sl;obtain⟨buf,s,r,hch,hbuf⟩:=h.pr.ch
 have hb0':buf=#[]:=by
  have:=hbuf.size;simpa using this
 subst hb0';have hr:=(hst w (.refl _ _ _)).1;have hw3:X.Y.nx≠X.ch∧X.Y.wg≠X.ch:=⟨h3.cn.symm,h3.cw.symm⟩
 have nb:∀ (j:Nat) x k,gs[j]? = some x→Γ.st j=.work (.send k)→x.status≠.blocked:=fun j x k hx hs hb=>by
  have:=h.pr.pb.full j x k hx hs hb;simp at this;omega
 have hpart:partners (gs.setIfInBounds 0 ph) X.ch true=[]:=by
  apply List.eq_nil_iff_forall_not_mem.2
  rintro⟨j,k⟩ hp;obtain⟨-,-,x,kk,v,z,D,hx,hb,hs,-⟩:=senders h hp;exact nb j x kk hx hs hb
 have hrun:=crowd_waits (sl:=sl) (i:=0) hi hgo (fun cc hcc=>by
  simp at hcc;subst hcc
  exact ways_recv_none (z:=z) hch hpart)
 rw[bG]at hrun;have hcl0:=h.wt.split.cl0;refine⟨_,Γ,_,_,c,sv,sm,[],false,hrun,?_,lt_bits (by simp) (bits_set hi hr (by simp[parked]))⟩;refine h.comm hw3 (by simp) (fun op hop=>by simp at hop) ⟨rfl,fun _ _=>rfl,h.wt.live⟩ (fun _ _ hb=>hb) rfl h.wt.data h.wt.dataown h.wt.datash h.wt.kind (fun j x hx=>?_) h.pr.pa h.pr.ch ⟨fun j x k' hx he hb=>?_,fun x hx hb=>⟨rfl,rfl,fun j x k hx he=>?_⟩,fun x hx hb=>?_⟩ (fun _ h=>h) id h.pr.mdt
 ·rcases aG hx with⟨rfl,rfl⟩|⟨hji,hx⟩
  ·right;rw[s0,hd];refine⟨rfl,.inr ⟨⟨z,rfl⟩,fun w₁ h₁=>?_⟩⟩;obtain⟨-,z1,k1,k2,k3⟩:=hst w₁ h₁;refine⟨rfl,z1,?_,k2,k3⟩;have:=stepG_tries (P:=X.P) (g:=Conc.core g) (sh:=.recv true) true #[rcase X.ch z] w₁;exact(this.trans (stepG_same rfl rfl rfl w₁)).trans k1
  ·exact .inl ⟨hx,rfl,rfl,rfl⟩
 ·rcases aG hx with⟨rfl,rfl⟩|⟨hji,hx⟩
  ·rw[s0]at he;cases he
  ·exact absurd hb (nb j x k' hx he)
 ·rcases aG hx with⟨rfl,rfl⟩|⟨hji,hx⟩
  ·rw[s0]at he;cases he
  ·exact nb j x k hx he
 ·rcases aG hx with⟨e,rfl⟩|⟨hji,hx⟩
  ·exact absurd e hcl0
  ·exact h.pr.pb.cblk x hx hb
theorem recv_buf(W:Walks X)(h3:Three X){k:Nat}(h:Inv X k0 Γ gs w t c sv sm (k::B) closed)(hi:gs[0]? = some g)(s0:Γ.st 0=.main (.recv R dt))(hd:Deaf t 0=0)(hst:MRecv X R dt (Γ.own 0) g w)(hpart:partners (gs.setIfInBounds 0 ph) X.ch true=[]):Good1 X k0 Γ gs w t c 0:=by
 intro sl;obtain⟨hr,z,hgo,hgot,-⟩:=hst;obtain⟨buf,s,r,hch,hbuf⟩:=h.pr.ch;obtain⟨b1,b2,D,b3,b4⟩:=buf_tail hbuf;have hp0:0<gs.size:=(Array.getElem?_eq_some_iff.1 hi).1;have hcl0:=h.wt.split.cl0;have hw3:X.Y.nx≠X.ch∧X.Y.wg≠X.ch:=⟨h3.cn.symm,h3.cw.symm⟩;have hl:=h.wt.live_lt.2.2;have hkL:k<X.L:=hbuf.lt k (by simp);have hrun:=crowd_recv_buf (sl:=sl) (i:=0) hi hgo hch b2 hpart;rw[lJ,bG,Array.empty_append]at hrun;obtain⟨C,hch'⟩:=mf (X:=X) w hl h.wt.live hw3 w.drawn (buf.extract 1 buf.size) closed s (r+1);rw[show w.at w.drawn=w from rfl]at C hch';have hsub:∀ b,dt b∨D b→Γ.data b:=fun b hb=>hb.elim (h.pr.mdt R dt s0 b) (b4 b);have hdt:bC ((w.at w.drawn).setChan X.ch X.n (buf.extract 1 buf.size) closed s (r+1) false) (fun b=>dt b∨D b):=bC.keep (w:=w) (fun b hb=>h.wt.data b (hsub b hb)) fun b hb=>C.keep b (h.wt.datash b (hsub b hb)).2.2;obtain⟨ρ0,hsit0,hrg0⟩:=run_recv W (hgot k (buf.getD 0 undef) D _ (h.wt.rrc C 0) b3 hkL) hdt;have p2:=pa_recv (dt':=fun b=>dt b∨D b) h.pr.pa s0 hp0 hcl0 hkL;have hlen:=got_le p2;rw[upd_same]at hlen;refine⟨_,{st:=upd Γ.st 0 (.main (.recv (k::R) fun b=>dt b∨D b)),rk:=upd Γ.rk 0 ρ0,own:=Γ.own,ev:=Γ.ev,data:=Γ.data},_,_,c,sv,sm,B,closed,hrun,?_,lt_sm ?_⟩
 ·have nb:∀ (j:Nat) x kk,gs[j]? = some x→Γ.st j=.work (.send kk)→x.status≠.blocked:=fun j x kk hx hs hb=>by
   have hj0:j≠0:=by rintro rfl;rw[s0]at hs;cases hs
   rcases fA (h.si j x hx) hb with⟨kk,v,z,D,h1,h2,-⟩|⟨R,dt,z,h1,-⟩|⟨h1,-⟩
   ·have:(j,0)∈partners (gs.setIfInBounds 0 ph) X.ch true:=mem_partners.2 ⟨x,stand_get hj0 hx,by rw[h2,offersAt_parked_send,if_pos rfl];simp⟩;rw[hpart]at this;cases this
   ·rw[hs]at h1;cases h1
   ·rw[hs]at h1;cases h1
  refine h.comm hw3 (by simp) (fun op hop=>?_) C (fun _ _ hb=>hb) rfl h.wt.data h.wt.dataown h.wt.datash (fun j hj=>?_) (fun j x hx=>?_) p2 ⟨_,_,_,hch',b1⟩ ⟨fun j x k' hx he hb=>?_,fun x hx hb=>?_,fun x hx hb=>?_⟩ (fun j hj=>?_) (fun e=>?_) fun R' dt' e b hb=>?_
  ·simp only[List.mem_toArray,List.mem_cons,List.not_mem_nil,or_false]at hop;rcases hop with rfl|rfl
   ·exact hand_recv hl
   ·exact kQ hl
  ·show Kind X k0 j (upd Γ.st 0 _ j);by_cases hj0:j=0
   ·subst hj0;rw[upd_same];rfl
   ·rw[upd_ne _ _ hj0];exact h.wt.kind j hj
  ·rcases aG hx with⟨rfl,rfl⟩|⟨hj0,hx⟩
   ·right;simp only[upd_same];rw[hd];exact hsit0
   ·exact .inl ⟨hx,upd_ne _ _ hj0,upd_ne _ _ hj0,rfl⟩
  ·change upd Γ.st 0 _ j=_ at he
   rcases aG hx with⟨rfl,rfl⟩|⟨hj0,hx⟩
   ·cases (show GoStatus.running=GoStatus.blocked from hb)
   ·rw[upd_ne _ _ hj0]at he;exact absurd hb (nb j x k' hx he)
  ·rcases aG hx with⟨-,rfl⟩|⟨hj0,hx⟩
   ·cases (show GoStatus.running=GoStatus.blocked from hb)
   ·exact absurd rfl hj0
  ·rcases aG hx with⟨e,rfl⟩|⟨hj0,hx⟩
   ·exact absurd e hcl0
   ·exact h.pr.pb.cblk x hx hb
  ·change relW (upd Γ.st 0 _ j)=true at hj
   by_cases hj0:j=0
   ·subst hj0;rw[upd_same]at hj;cases hj
   ·rwa[upd_ne _ _ hj0]at hj
  ·change upd Γ.st 0 _ X.Y.cl=_ at e
   rwa[upd_ne _ _ hcl0]at e
  ·replace e:upd Γ.st 0 (.main (.recv (k::R) fun b=>dt b∨D b)) 0=.main (.recv R' dt'):=e;rw[upd_same]at e;injection e with e;injection e with e1 e2;subst e2;exact hsub b hb
 ·rw[show(gs.setIfInBounds 0 (Conc.served (Conc.core g) (recvd true (buf.getD 0 undef) true))).size=gs.size by simp];exact sm_recv (ρ':=ρ0) (own':=noB) hp0 s0 hlen
theorem recv_both(W:Walks X)(h3:Three X){k:Nat}(h:Inv X k0 Γ gs w t c sv sm (k::B) closed)(hi:gs[0]? = some g)(s0:Γ.st 0=.main (.recv R dt))(hd:Deaf t 0=0)(hst:MRecv X R dt (Γ.own 0) g w)(hpart:partners (gs.setIfInBounds 0 ph) X.ch true≠[]):Good1 X k0 Γ gs w t c 0:=by
 intro sl;obtain⟨hr,z,hgo,hgot,-⟩:=hst;obtain⟨buf,s,r,hch,hbuf⟩:=h.pr.ch;obtain⟨b1,b2,D,b3,b4⟩:=buf_tail hbuf;have hp0:0<gs.size:=(Array.getElem?_eq_some_iff.1 hi).1;have hcl0:=h.wt.split.cl0;have hw3:X.Y.nx≠X.ch∧X.Y.wg≠X.ch:=⟨h3.cn.symm,h3.cw.symm⟩;have hl:=h.wt.live_lt.2.2;have hkL:k<X.L:=hbuf.lt k (by simp)
 obtain⟨i,gj,vj,zj,d,ops,hne,hj,hrun,hops⟩:=crowd_recv_both (sl:=sl) (i:=0) hi hgo hch b2 hpart fun j k hp=>by
  obtain⟨e,hj0,x,kk,v,z,D,hx,-,-,hxe,-⟩:=senders h hp;exact⟨e,hj0,Conc.core x,v,z,by rw[hx];exact congrArg some hxe⟩
 obtain⟨k2,v2,z2,D2,hs,hpe,H,haf⟩:∃ kk v z D,Γ.st i=.work (.send kk)∧parked gj #[scase X.ch vj zj] .send=parked (Conc.core gj) #[scase X.ch v z] .send∧Hands X Γ i kk w v D∧After X (Conc.core gj) w:=by
  rcases fA (h.si i _ hj) rfl with⟨kk,v,z,D,h1,h2,h3,h4,h5,h6⟩|⟨R,dt,z,h1,h2,-⟩|⟨-,h1⟩
  ·exact⟨kk,v,z,D,h1,h2,⟨h3,h4,h5⟩,h6⟩
  ·injection h2 with _ _ _ _ e;simp[rcase,scase]at e
  ·simp[parked]at h1
 have hv2:v2=vj:=by
  injection hpe with _ _ _ _ e;simp[scase]at e;exact e.1.symm
 subst hv2
 have hcl:closed=false:=by
  cases hc:closed with
  |false=>rfl
  |true=>exact absurd hs (h.pr.pa.no_work (h.pr.pa.closed_after hc) i (Array.getElem?_eq_some_iff.1 hj).1 _)
 subst hcl;have a:=atW h hj hs
 have hi0:(i==0)=false:=by simpa using hne
 obtain⟨C,hch'⟩:=mf (X:=X) w hl h.wt.live hw3 d ((buf.extract 1 buf.size).push v2) false (s+1) (r+1);obtain⟨ρ',hsit,hrg⟩:=run_of (i:=i) W (haf _ (C.rr (fun hb=>hb.elim) h.wt.roch)) hi0
 have ho:∀ j b,upd Γ.own i noB j b→Γ.own j b:=fun j b hb=>by
  by_cases hji:j=i
  ·subst hji;rw[upd_same]at hb;exact hb.elim
  ·rwa[upd_ne _ _ hji]at hb
 obtain⟨d1,d2,d3⟩:=H.data h (own':=upd Γ.own i noB) ho fun b hb=>by rw[upd_same]at hb;exact hb
 have hsub:∀ b,dt b∨D b→Γ.data b:=fun b hb=>hb.elim (h.pr.mdt R dt s0 b) (b4 b);have hdt:bC ((w.at d).setChan X.ch X.n ((buf.extract 1 buf.size).push v2) false (s+1) (r+1) false) (fun b=>dt b∨D b):=bC.keep (w:=w) (fun b hb=>h.wt.data b (hsub b hb)) fun b hb=>C.keep b (h.wt.datash b (hsub b hb)).2.2;obtain⟨ρ0,hsit0,hrg0⟩:=run_recv W (hgot k (buf.getD 0 undef) D _ (h.wt.rrc C 0) b3 hkL) hdt;have hblen:=h.pr.pa.blen;simp only[List.length_cons]at hblen;have p1:=pa_recv (dt':=fun b=>dt b∨D b) h.pr.pa s0 hp0 hcl0 hkL;have hlen:=got_le p1;rw[upd_same]at hlen;have p2:=pa_send' p1 (i:=i) (k:=k2) ⟨a.lt,a.k1,a.lo,a.hi⟩ (by rw[upd_ne _ _ hne];exact hs) (by omega);have hfull:=h.pr.pb.full i _ k2 hj hs rfl;simp only[List.length_cons]at hfull;refine⟨_,{st:=upd (upd Γ.st 0 (.main (.recv (k::R) fun b=>dt b∨D b))) i (.work .add),rk:=upd (upd Γ.rk 0 ρ0) i ρ',own:=upd Γ.own i noB,ev:=Γ.ev,data:=fun b=>Γ.data b∨D2 b},_,_,c,sv,sm,B++[k2],false,hrun,?_,lt_sm ?_⟩
 ·refine h.comm hw3 (by simp) (fun op hop=>?_) C ho rfl d1 d2 d3 (fun j hj=>?_) (fun j x hx=>?_) p2 ⟨_,_,_,hch',buf_push b1 H.pay (fun b hb=>.inr hb) (fun b hb=>.inl hb) (h.pr.pa.inS i k2 a.lt hs)⟩ ⟨fun j x k' hx he hb=>by simp;omega,fun x hx hb=>?_,fun x hx hb=>?_⟩ (fun j hj=>?_) (fun e=>?_) fun R' dt' e b hb=>?_
  ·rcases hops op hop with e|e|e|e
   ·exact⟨by rw[e];rfl,by rw[e];simp,by rw[e];simp,by rw[e];exact hl,by rw[e];simp⟩
   ·exact⟨by rw[e];rfl,by rw[e];simp,by rw[e];simp,by rw[e];exact hl,by rw[e];simp⟩
   ·exact⟨by rw[e];rfl,by rw[e];simp,by rw[e];simp,by rw[e];exact hl,by rw[e];simp⟩
   ·exact⟨by rw[e];rfl,by rw[e];simp,by rw[e];simp,by rw[e];exact hl,by rw[e];simp⟩
  ·show Kind X k0 j (upd (upd Γ.st 0 _) i _ j);by_cases hji:j=i
   ·subst hji;rw[upd_same];exact⟨a.lo,a.hi⟩
   ·rw[upd_ne _ _ hji];by_cases hj0:j=0
    ·subst hj0;rw[upd_same];rfl
    ·rw[upd_ne _ _ hj0];exact h.wt.kind j hj
  ·rcases aG hx with⟨rfl,rfl⟩|⟨hj0,hx⟩
   ·right;simp only[upd_same,upd_ne _ _ (Ne.symm hne)];rw[hd];exact hsit0
   ·rcases aG hx with⟨rfl,rfl⟩|⟨hji,hx⟩
    ·right;simp only[upd_same]
     have hdi:Deaf t j=0:=by
      have:=h.si j _ hj;rw[hs]at this;exact this.1
     rw[hdi];exact hsit
    ·exact .inl ⟨hx,by simp only[upd_ne _ _ hj0,upd_ne _ _ hji],by simp only[upd_ne _ _ hj0,upd_ne _ _ hji],upd_ne _ _ hji⟩
  ·rcases aG hx with⟨-,rfl⟩|⟨hj0,hx⟩
   ·cases (show GoStatus.running=GoStatus.blocked from hb)
   ·exact absurd rfl hj0
  ·rcases aG hx with⟨e,rfl⟩|⟨hj0,hx⟩
   ·exact absurd e hcl0
   ·rcases aG hx with⟨e,rfl⟩|⟨hji,hx⟩
    ·have:=a.hi;omega
    ·exact h.pr.pb.cblk x hx hb
  ·change relW (upd (upd Γ.st 0 _) i _ j)=true at hj
   by_cases hji:j=i
   ·subst hji;rw[upd_same]at hj;cases hj
   ·rw[upd_ne _ _ hji]at hj;by_cases hj0:j=0
    ·subst hj0;rw[upd_same]at hj;cases hj
    ·rwa[upd_ne _ _ hj0]at hj
  ·change upd (upd Γ.st 0 _) i _ X.Y.cl=_ at e
   rwa[upd_ne _ _ (by have:=a.hi;omega),upd_ne _ _ hcl0]at e
  ·replace e:upd (upd Γ.st 0 (.main (.recv (k::R) fun b=>dt b∨D b))) i (.work .add) 0=.main (.recv R' dt'):=e;rw[upd_ne _ _ (Ne.symm hne),upd_same]at e;injection e with e;injection e with e1 e2;subst e2;exact .inl (hsub b hb)
 ·rw[show((gs.setIfInBounds i (Conc.served gj undef)).setIfInBounds 0 (Conc.served (Conc.core g) (recvd true (buf.getD 0 undef) true))).size=gs.size by simp];have e1:=sm_recv (X:=X) (c:=c) (n:=gs.size) (dt':=fun b=>dt b∨D b) (ρ':=ρ0) (own':=noB) hp0 s0 hlen;have e2:=sm_send (X:=X) (c:=c) (Γ:=Γ.set 0 (.main (.recv (k::R) fun b=>dt b∨D b)) ρ0 noB) (n:=gs.size) (k:=k2) (ρ':=ρ') (own':=noB) a.lt (by show upd Γ.st 0 _ i=_;rw[upd_ne _ _ hne];exact hs);exact Nat.lt_trans e2 e1
end
end Ph
namespace Ph
open Conc Co Cl
open Go.ConcN (sumTo upd sumTo_upd upd_ne upd_same RelBy)
section
variable {X:Cx}{k0 n:Nat}{st:Nat→St}{Γ Γ':Gh}{gs gs':Array Goroutine}{w w':World}{t u:Trace}{i:Nat}{g g':Goroutine}{es:Array Event}{c:Nat}{sv sm:Int}{B B':List Nat}{closed closed':Bool}
structure Nil(s:St):Prop where
 cnt:cntW s=0
 last:lastW s=0
 lsem:lsemW s=0
 act:actW s=0
 infl:∀ k,inflW k s=0
 send:∀ k,s≠.work (.send k)
 main:∀ m,s≠.main m
theorem Nil.clos(s:CS):Nil (.clos s):=⟨rfl,rfl,rfl,rfl,fun _=>rfl,fun _=>by simp,fun _=>by simp⟩
theorem Nil.old:Nil .old:=⟨rfl,rfl,rfl,rfl,fun _=>rfl,fun _=>by simp,fun _=>by simp⟩
theorem cZ(h3:Three X)(h:Inv X k0 Γ gs w t c sv sm B closed)(hi:gs[X.Y.cl]? = some g){s:CS}(hs:Γ.st X.Y.cl=.clos s){s':St}(hn:Nil s'){ρ':Rk}{sv' sm':Int}
 (hgo:stepG X.P false g w=.go g' w' es) (T:Turn X Γ X.Y.cl noB w w') (hnx:NxAt X w' c) (hwg:WgAt X w' sv' sm') (hch:∃ buf s r,ChAt X w' buf closed' s r∧Buf X Γ.data buf B) (hk:Kind X k0 X.Y.cl s')
 (hes:∀ e∈es,EvOk X (Γ.set X.Y.cl s' ρ' noB).ev (lvOf k0 gs.size X.Y.cl) X.Y.cl w'.heap.size e) (hsit:Sit X false s' ρ' noB (deafBehind (Deaf t X.Y.cl) es) g' w') (hnb:g'.status≠.blocked)
 (hmode:Mode (sumTo gs.size fun a=>cntW (Γ.st a)) (sumTo gs.size fun a=>lastW (Γ.st a)) (sumTo gs.size fun a=>lsemW (Γ.st a)) (ckOf X.Y.cl gs.size (upd Γ.st X.Y.cl s')) sv' sm')
 (hcld:closed'=true↔s'=.old) (hcas:∀ vs,s'=.clos (.cas vs)→(sumTo gs.size fun i=>cntW (Γ.st i))≤vs+1) (hc:closed'=true→∀ x,gs[0]? = some x→(woken X.P g g' w' x).status≠.blocked) (hsm:sm'=sm∨sm'=0)
 (hacq:s'=.clos .close→s=.close∨∃q,Acq X k0 (t++MemOp.ofEvents X.Y.cl g.frame.fn g.frame.place es) q) (hcls:closed'=true→∃ q pc,iR X.Y (lvOf k0 gs.size) X.ch (t++MemOp.ofEvents X.Y.cl g.frame.fn g.frame.place es) q pc)
 (hwt:wtS X (sumTo gs.size fun j=>cntW (Γ.st j)) s'<wtS X (sumTo gs.size fun j=>cntW (Γ.st j)) (.clos s)):Good1 X k0 Γ gs w t c X.Y.cl:=by
 intro sl;have hlt:X.Y.cl<gs.size:=(Array.getElem?_eq_some_iff.1 hi).1;have hcl0:=h.wt.split.cl0
 have hb0:(X.Y.cl==0)=false:=by simpa using hcl0
 have hclf:closed=false:=by
  cases hc:closed with
  |false=>rfl
  |true =>
   have:=(h.pr.pa.cld.1 hc).2;rw[hs]at this;cases this
 subst hclf;have hns:=Nil.clos s;have e1:=aO (st:=Γ.st) cntW (s':=s') hlt (by rw[hs,hn.cnt,hns.cnt]);have e2:=aO (st:=Γ.st) lastW (s':=s') hlt (by rw[hs,hn.last,hns.last]);have e3:=aO (st:=Γ.st) lsemW (s':=s') hlt (by rw[hs,hn.lsem,hns.lsem]);have e4:=aO (st:=Γ.st) actW (s':=s') hlt (by rw[hs,hn.act,hns.act]);have q2:upd Γ.st X.Y.cl s' 0=Γ.st 0:=upd_ne _ _ (Ne.symm hcl0);have hrun:=runT_crowd_go (sl:=sl) (i:=X.Y.cl) hi (by rw[hb0];exact hgo);refine⟨_,Γ.set X.Y.cl s' ρ' noB,_,_,c,sv',sm',B,closed',hrun,?_,lt_sm ?_⟩
 ·refine h.go hi (.inl (lv_of h hlt (by rw[hs];simp))) T hk hes (by rw[hb0];exact hsit) hnb ?_ hnx hwg hch (fun e=>.inr (hc e)) (hsm.imp id .inl) (fun e _ k=>absurd k (Nat.lt_irrefl _)) (fun _ _ k=>absurd k (Nat.lt_irrefl _))
   (fun e _=>(hacq e).imp (fun e2=>by rw[hs,e2]) id) (fun e=>by cases e) (fun e=>.inr (hcls e)) (mdt_work h q2)
  refine⟨h.pr.pa.clk,by rw[e4];exact h.pr.pa.cb,by rw[e1,e2,e3];exact hmode,h.pr.pa.blen,fun k hk=>?_,by rw[q2];exact h.pr.pa.inR,fun j k hj e=>?_,by rw[q2];exact h.pr.pa.stage,?_,fun vs hv e=>?_,fun j h1 h2 h3 e=>h.pr.pa.pas j h1 h2 h3 (by rwa[upd_ne _ _ (by omega)]at e)⟩
  ·have e5:=aO (st:=Γ.st) (inflW k) (s':=s') hlt (by rw[hs,hn.infl,hns.infl]);rw[q2,e5];exact h.pr.pa.count k hk
  ·by_cases hji:j=X.Y.cl
   ·subst hji;rw[upd_same]at e;exact absurd e (hn.send k)
   ·rw[upd_ne _ _ hji]at e;exact h.pr.pa.inS j k hj e
  ·rw[upd_same];exact hcld.trans ⟨fun e=>⟨hlt,e⟩,fun e=>e.2⟩
  ·rw[upd_same]at e;rw[e1];exact hcas vs e
 ·rw[show((gs.map (woken X.P g g' w')).setIfInBounds X.Y.cl g').size=gs.size by simp]
  refine sm_set hlt (by rw[hs,hn.cnt];exact Nat.zero_le _) ?_;rw[hs];omega
theorem ck_at(h:Inv X k0 Γ gs w t c sv sm B closed)(hi:gs[X.Y.cl]? = some g)(s':St):ckOf X.Y.cl gs.size (upd Γ.st X.Y.cl s')=ckS s':=by
 have hlt:X.Y.cl<gs.size:=(Array.getElem?_eq_some_iff.1 hi).1;unfold ckOf;rw[if_neg (by omega),upd_same]
theorem iW(h:Inv X k0 Γ gs w t c sv sm B closed)(hi:gs[X.Y.cl]? = some g){s':St}(hs:Γ.st X.Y.cl=s'):ckOf X.Y.cl gs.size Γ.st=ckS s':=by
 have:=ck_at h hi (Γ.st X.Y.cl);rw[jU]at this;rw[this,hs]
theorem eU(h:Inv X k0 Γ gs w t c sv sm B closed){s:CS}(hs:Γ.st X.Y.cl=.clos s):closed=false:=by
 cases hc:closed with
 |false=>rfl
 |true =>
  have:=(h.pr.pa.cld.1 hc).2;rw[hs]at this;cases this
theorem kD(h3:Three X)(h:Inv X k0 Γ gs w t c sv sm B closed)(hi:gs[X.Y.cl]? = some g){s s':CS}(hs:Γ.st X.Y.cl=.clos s){m:Mark}(hgo:stepG X.P false g w=.go g' w #[Ph.mk m])(hr:Gl X false dT (cstop X s') noB g' w)
 (hev:∀ ev,EvOk X ev (lvOf k0 gs.size X.Y.cl) X.Y.cl w.heap.size (Ph.mk m)) (hd:deafBehind (Deaf t X.Y.cl) #[Ph.mk m]=jw (.clos s'))
 (hmode:Mode (sumTo gs.size fun a=>cntW (Γ.st a)) (sumTo gs.size fun a=>lastW (Γ.st a)) (sumTo gs.size fun a=>lsemW (Γ.st a)) (ckOf X.Y.cl gs.size (upd Γ.st X.Y.cl (.clos s'))) sv sm)
 (hcas:∀ vs,s'≠.cas vs) (hacq:s'=.close→∃ q,Acq X k0 (t++MemOp.ofEvents X.Y.cl g.frame.fn g.frame.place #[Ph.mk m]) q) (hwt:wtS X (sumTo gs.size fun j=>cntW (Γ.st j)) (.clos s')<wtS X (sumTo gs.size fun j=>cntW (Γ.st j)) (.clos s)):Good1 X k0 Γ gs w t c X.Y.cl:=by
 obtain⟨ρ',hρ⟩:=hr;have hc:=eU h hs;subst hc
 exact cZ (closed':=false) h3 h hi hs (Nil.clos s') (ρ':=ρ') hgo (gQ h.wt fun _ hb=>hb.elim) h.pr.nx h.pr.wg h.pr.ch rfl (fun e he=>by
  simp at he;subst he
  exact hev _) ⟨hd,.inl hρ⟩ (bu (s:=.clos s') (by simp) hρ) hmode (by simp) (fun vs e=>absurd (St.clos.inj e) (hcas vs)) (fun e=>by cases e) (.inl rfl) (fun e=>.inr (hacq (St.clos.inj e))) (fun e=>by cases e) hwt
theorem clos_dis(h3:Three X)(h:Inv X k0 Γ gs w t c sv sm B closed)(hi:gs[X.Y.cl]? = some g)(hs:Γ.st X.Y.cl=.clos .dis)(hd:Deaf t X.Y.cl=0)(hst:CDis X (Γ.own X.Y.cl) g w):Good1 X k0 Γ gs w t c X.Y.cl:=by
 obtain⟨hr,g',hgo,hn⟩:=hst;have hm:=h.pr.pa.mode;rw[iW h hi hs]at hm;exact kD (s':=.load) h3 h hi hs hgo hn (fun ev=>fC (m:=.disable) rfl trivial (by simp) _ (by simp)) (by rw[hd];rfl) (by rw[ck_at h hi];exact hm) (by simp) (by simp) (by simp only[wtS];omega)
theorem clos_wr(h3:Three X)(h:Inv X k0 Γ gs w t c sv sm B closed)(hi:gs[X.Y.cl]? = some g)(hs:Γ.st X.Y.cl=.clos .wr)(hd:Deaf t X.Y.cl=1)(hst:CWr X (Γ.own X.Y.cl) g w):Good1 X k0 Γ gs w t c X.Y.cl:=by
 obtain⟨hr,g',hgo,hn⟩:=hst;have hm:=h.pr.pa.mode;rw[iW h hi hs]at hm;refine kD (s':=.sem) h3 h hi hs hgo hn (fun ev=>⟨fun x hx=>?_,h.wt.live_lt.2.1,by simp[Ph.mk]⟩) (by rw[hd];rfl) (by rw[ck_at h hi];exact hm) (by simp) (by simp) (by simp only[wtS];omega);simp only[Ph.mk,MemAct.ofEvent,MemAct.touch?,Option.some.injEq]at hx;subst hx;exact⟨.inr (.inr (.inl ⟨rfl,rfl,.inr rfl⟩)),fun _ e=>absurd e h.wt.split.cl0⟩
theorem clos_enab(h3:Three X)(h:Inv X k0 Γ gs w t c sv sm B closed)(hi:gs[X.Y.cl]? = some g)(hs:Γ.st X.Y.cl=.clos .enab)(hd:Deaf t X.Y.cl=1)(hst:CEnab X (Γ.own X.Y.cl) g w):Good1 X k0 Γ gs w t c X.Y.cl:=by
 obtain⟨hr,g',hgo,hn⟩:=hst;have hm:=h.pr.pa.mode;rw[iW h hi hs]at hm;exact kD (s':=.acq) h3 h hi hs hgo hn (fun ev=>fC (m:=.enable) rfl trivial (by simp) _ (by simp)) (by rw[hd];rfl) (by rw[ck_at h hi];exact hm) (by simp) (by simp) (by simp only[wtS];omega)
theorem clos_acq(h3:Three X)(h:Inv X k0 Γ gs w t c sv sm B closed)(hi:gs[X.Y.cl]? = some g)(hs:Γ.st X.Y.cl=.clos .acq)(hd:Deaf t X.Y.cl=0)(hst:CAcq X (Γ.own X.Y.cl) g w):Good1 X k0 Γ gs w t c X.Y.cl:=by
 obtain⟨hr,g',hgo,hn⟩:=hst;have hlt:X.Y.cl<gs.size:=(Array.getElem?_eq_some_iff.1 hi).1;have hm:=h.pr.pa.mode;have hck:=iW h hi hs;have hnw:=h.pr.pa.no_work hck;rw[hck]at hm;refine kD (s':=.close) h3 h hi hs hgo hn (fun ev=>fC (m:=.acquire (stA X)) rfl h.wt.live_lt.2.1 (by simp) _ (by simp)) (by rw[hd];rfl) (by rw[ck_at h hi];exact hm) (by simp) (fun _=>⟨t.size,?_⟩) (by simp only[wtS];omega)
 have e1:MemOp.ofEvents X.Y.cl g.frame.fn g.frame.place #[Ph.mk (.acquire (stA X))]=#[{g:=X.Y.cl,fn:=g.frame.fn,pos:=g.frame.place,act:=.mark (.acquire (stA X))}]:=by rw[ofEvents_eq];simp[Ph.mk,MemAct.ofEvent]
 rw[e1]
 have hy:(t++#[({g:=X.Y.cl,fn:=g.frame.fn,pos:=g.frame.place,act:=.mark (.acquire (stA X))}:MemOp)])[t.size]? = some {g:=X.Y.cl,fn:=g.frame.fn,pos:=g.frame.place,act:=.mark (.acquire (stA X))}:=by simp
 refine⟨by rw[act?_of hy],by simp[Trace.g?],⟨X.Y.cl,by simp[Trace.g?],by rw[deaf_old (Nat.le_refl _)];exact hd⟩,fun j h1 h2=>?_⟩;have hk:=h.wt.kind j (by omega)
 have hrel:relW (Γ.st j)=true:=by
  have:=h.wt.k0p
  cases hsj:Γ.st j with
  |old=>rfl
  |work s=>exact absurd hsj (hnw j (by omega) s)
  |clos s=>rw[hsj]at hk;simp only[Kind]at hk;omega
  |main s=>rw[hsj]at hk;simp only[Kind]at hk;omega
 obtain⟨r,hr⟩:=h.pr.pt.rel j h1 h2 (by omega) hrel;have hlt2:=lt_of_act? hr.act;exact⟨r,hr.appOther (g:=X.Y.cl) (fun op hop=>by simp at hop;rw[hop]) (by omega),hlt2⟩
theorem clos_load(h3:Three X)(h:Inv X k0 Γ gs w t c sv sm B closed)(hi:gs[X.Y.cl]? = some g)(hs:Γ.st X.Y.cl=.clos .load)(hd:Deaf t X.Y.cl=1)(hst:CLoad X (Γ.own X.Y.cl) g w):Good1 X k0 Γ gs w t c X.Y.cl:=by
 obtain⟨hr,hstep⟩:=hst;have hl:=h.wt.live_lt.2.1;have hc:=eU h hs;subst hc;have hcn:=cnt_le h;have hsml:=h3.small;have hfew:=h3.few;have hm:=h.pr.pa.mode;rw[iW h hi hs]at hm;have hwg:=h.pr.wg;generalize hV:sumTo gs.size (fun i=>cntW (Γ.st i))=V at hm
 cases hm with
 |opn k1 k2 =>
  obtain⟨g',es,hgo,hev,h0,h1⟩:=hstep V (by omega) hwg;by_cases hv:V=0
  ·obtain⟨ρ',hρ⟩:=h0 hv
   refine cZ (closed':=false) h3 h hi hs (Nil.clos .enab) (ρ':=ρ') hgo (gQ h.wt fun _ hb=>hb.elim) h.pr.nx h.pr.wg h.pr.ch rfl (iF hev (.inr rfl) hl) (by rw[aX hev,hd];exact⟨rfl,.inl hρ⟩) (bu (s:=.clos .enab) (by simp) hρ) ?_ (by simp) (fun vs e=>by cases e) (fun e=>by cases e) (.inl rfl) (fun e=>by cases e) (fun e=>by cases e) (by simp only[wtS];omega);rw[ck_at h hi,hV,hv];have:=Mode.done (v:=0) rfl k1 k2;show Mode 0 _ _ .after _ _;simpa using this
  ·obtain⟨ρ',hρ⟩:=h1 hv;obtain⟨u,rfl⟩:∃ u,V=u+1:=⟨V-1,by omega⟩;refine cZ (closed':=false) h3 h hi hs (Nil.clos (.cas u)) (ρ':=ρ') hgo (gQ h.wt fun _ hb=>hb.elim) h.pr.nx h.pr.wg h.pr.ch rfl (iF hev (.inr rfl) hl) (by rw[aX hev,hd];exact⟨rfl,.inl hρ⟩) (bu (s:=.clos (.cas u)) (by simp) hρ) ?_ (by simp) (fun vs e=>by cases e;omega) (fun e=>by cases e) (.inl rfl) (fun e=>by cases e) (fun e=>by cases e) (by simp only[wtS,hV];omega);rw[ck_at h hi,hV];exact .opn k1 k2
theorem clos_cas(W:Walks X)(h3:Three X)(h:Inv X k0 Γ gs w t c sv sm B closed)(hi:gs[X.Y.cl]? = some g){vs:Nat}(hs:Γ.st X.Y.cl=.clos (.cas vs))(hd:Deaf t X.Y.cl=1)(hst:CCas X (vs+1) (Γ.own X.Y.cl) g w):Good1 X k0 Γ gs w t c X.Y.cl:=by
 obtain⟨hr,hstep⟩:=hst;have hlt:X.Y.cl<gs.size:=(Array.getElem?_eq_some_iff.1 hi).1;have hl:=h.wt.live_lt.2.1;have hc:=eU h hs;subst hc;have hcn:=cnt_le h;have hsml:=h3.small;have hfew:=h3.few;have hm:=h.pr.pa.mode;have hcs:=h.pr.pa.cas vs hlt hs;rw[iW h hi hs]at hm;have hwg:=h.pr.wg;generalize hV:sumTo gs.size (fun i=>cntW (Γ.st i))=V at hm
 cases hm with
 |opn k1 k2 =>
  obtain⟨h0,h1⟩:=hstep V (by omega) hwg;by_cases hv:V=vs+1
  ·obtain⟨g',es,hgo,hev,ρ',hρ⟩:=h0 hv;have T:=GTurn.put (X:=X) (st:=V*KK+1) (sm:=0) h3 h.wt.live;refine cZ (closed':=false) h3 h hi hs (Nil.clos .wr) (ρ':=ρ') hgo (T.turn h.wt) (by unfold NxAt;rw[T.keep _ h3.nw];exact h.pr.nx) (fB hl) ?_ rfl (iF hev (.inr rfl) (by rw[cO];exact hl)) (by rw[aX hev,hd];exact⟨rfl,.inl hρ⟩) (bu (s:=.clos .wr) (by simp) hρ) ?_ (by simp) (fun vs e=>by cases e) (fun e=>by cases e) (.inr rfl) (fun e=>by cases e) (fun e=>by cases e) (by simp only[wtS];omega)
   ·obtain⟨buf,s,r,k1,k2⟩:=h.pr.ch
    exact⟨buf,s,r,by unfold ChAt;rw[T.keep _ h3.cw];exact k1,k2⟩
   ·rw[ck_at h hi,hV];exact .reg (by omega) k1 k2
  ·obtain⟨g',es,hgo,hev,hA⟩:=h1 hv;obtain⟨ρ',hρ⟩:=W.load g' w (hA w (.refl _ _ _));refine cZ (closed':=false) h3 h hi hs (Nil.clos .load) (ρ':=ρ') hgo (gQ h.wt fun _ hb=>hb.elim) h.pr.nx h.pr.wg h.pr.ch rfl (iF hev (.inr rfl) hl) (by rw[aX hev,hd];exact⟨rfl,.inl hρ⟩) (bu (s:=.clos .load) (by simp) hρ) ?_ (by simp) (fun vs e=>by cases e) (fun e=>by cases e) (.inl rfl) (fun e=>by cases e) (fun e=>by cases e) (by simp only[wtS,hV];omega);rw[ck_at h hi,hV];exact .opn k1 k2
theorem clos_load2(h3:Three X)(h:Inv X k0 Γ gs w t c sv sm B closed)(hi:gs[X.Y.cl]? = some g)(hs:Γ.st X.Y.cl=.clos .load2)(hd:Deaf t X.Y.cl=1)(hst:CLoad2 X (Γ.own X.Y.cl) g w):Good1 X k0 Γ gs w t c X.Y.cl:=by
 obtain⟨hr,hstep⟩:=hst;have hl:=h.wt.live_lt.2.1;have hc:=eU h hs;subst hc;have hm:=h.pr.pa.mode;have hck:=iW h hi hs
 have hwg:WgAt X w 0 0:=by
  have hwg:=h.pr.wg;rw[hck]at hm;cases hm;exact hwg
 rw[hck]at hm;obtain⟨g',es,hgo,hev,ρ',hρ⟩:=hstep hwg;exact cZ (closed':=false) h3 h hi hs (Nil.clos .enab) (ρ':=ρ') hgo (gQ h.wt fun _ hb=>hb.elim) h.pr.nx h.pr.wg h.pr.ch rfl (iF hev (.inr rfl) hl) (by rw[aX hev,hd];exact⟨rfl,.inl hρ⟩) (bu (s:=.clos .enab) (by simp) hρ) (by rw[ck_at h hi];exact hm) (by simp) (fun vs e=>by cases e) (fun e=>by cases e) (.inl rfl) (fun e=>by cases e) (fun e=>by cases e) (by simp only[wtS];omega)
theorem woken_off{P:Program}{a a':Goroutine}(h:a'.status=.blocked)(o:Goroutine):woken P a a' w o=o:=by
 unfold woken;rw[if_neg];rw[h];simp
theorem map_off{P:Program}{a a':Goroutine}(h:a'.status=.blocked):gs.map (woken P a a' w)=gs:=by
 apply Array.ext_getElem?
 intro j;rw[Array.getElem?_map]
 cases gs[j]? with
 |none=>rfl
 |some x=>simp[woken_off h]
theorem clos_sem(h3:Three X)(h:Inv X k0 Γ gs w t c sv sm B closed)(hi:gs[X.Y.cl]? = some g)(hs:Γ.st X.Y.cl=.clos .sem)(hd:Deaf t X.Y.cl=1)(hst:∀ w₁,RR X (Γ.own X.Y.cl) w w₁→CSem X (Γ.own X.Y.cl) g w₁):Good1 X k0 Γ gs w t c X.Y.cl:=by
 have hst0:=hst w (.refl _ _ _);obtain⟨hr,ho,hblk,hgot⟩:=hst0;have hlt:X.Y.cl<gs.size:=(Array.getElem?_eq_some_iff.1 hi).1;have hl:=h.wt.live_lt.2.1;have hc:=eU h hs;subst hc;have hm:=h.pr.pa.mode;have hck:=iW h hi hs;have hwg:=h.pr.wg;have hcl0:=h.wt.split.cl0
 have hb0:(X.Y.cl==0)=false:=by simpa using hcl0
 have blocks:(∃st,WgAt X w st 0)→sm=0→Good1 X k0 Γ gs w t c X.Y.cl:=by
  intro hex hsm0 sl;have hgo:=hblk hex;have hrun:=runT_crowd_go (sl:=sl) (i:=X.Y.cl) hi (by rw[hb0];exact hgo);rw[bG,map_off rfl]at hrun;have hw3:X.Y.nx≠X.ch∧X.Y.wg≠X.ch:=⟨h3.cn.symm,h3.cw.symm⟩;refine⟨_,Γ,_,_,c,sv,sm,B,false,hrun,?_,lt_bits (by simp) (bits_set hi hr (by simp))⟩;refine h.comm hw3 (by simp) (fun op hop=>by simp at hop) ⟨rfl,fun _ _=>rfl,h.wt.live⟩ (fun _ _ hb=>hb) rfl h.wt.data h.wt.dataown h.wt.datash h.wt.kind (fun j x hx=>?_) h.pr.pa h.pr.ch ⟨fun j x k' hx he hb=>?_,fun x hx hb=>?_,fun x hx hb=>hsm0⟩ (fun _ h=>h) id h.pr.mdt
  ·rcases aG hx with⟨rfl,rfl⟩|⟨hji,hx⟩
   ·right;rw[hs,hd];refine⟨rfl,.inr ⟨rfl,ho,fun w₁ h₁=>?_⟩⟩
    have e:({({g with status:=.blocked}:Goroutine) with status:=.running}:Goroutine)=g:=by
     obtain⟨f,cs,s,d,o⟩:=g
     dsimp only at hr
     subst hr;rfl
    rw[e];exact hst w₁ h₁
   ·exact .inl ⟨hx,rfl,rfl,rfl⟩
  ·rcases aG hx with⟨rfl,rfl⟩|⟨hji,hx⟩
   ·rw[hs]at he;cases he
   ·exact h.pr.pb.full j x k' hx he hb
  ·rcases aG hx with⟨e,rfl⟩|⟨hji,hx⟩
   ·exact absurd e.symm hcl0
   ·obtain⟨m1,m2,m3⟩:=h.pr.pb.mblk x hx hb;refine⟨m1,m2,fun j y k hy he=>?_⟩;rcases aG hy with⟨rfl,rfl⟩|⟨hji2,hy⟩
    ·rw[hs]at he;cases he
    ·exact m3 j y k hy he
 rw[hck]at hm;generalize hV:sumTo gs.size (fun i=>cntW (Γ.st i))=V at hm;generalize hLa:sumTo gs.size (fun i=>lastW (Γ.st i))=La at hm;generalize hLs:sumTo gs.size (fun i=>lsemW (Γ.st i))=Ls at hm
 cases hm with
 |reg _ _ _=>exact blocks ⟨_,hwg⟩ rfl
 |lst _ _ _=>exact blocks ⟨_,hwg⟩ rfl
 |sem _ _ _=>exact blocks ⟨_,hwg⟩ rfl
 |up k0' k1 k2 =>
  obtain⟨g',es,hgo,hev,ρ',hρ⟩:=hgot hwg;unfold EvSem at hev;subst hev;have T:=GTurn.put (X:=X) (st:=0) (sm:=0) h3 h.wt.live;refine cZ (closed':=false) h3 h hi hs (Nil.clos .load2) (ρ':=ρ') hgo (T.turn h.wt) (by unfold NxAt;rw[T.keep _ h3.nw];exact h.pr.nx) (fB hl) ?_ rfl (evok_sem (by rw[cO];exact hl)) (by rw[deaf_sem,hd];exact⟨rfl,.inl hρ⟩) (bu (s:=.clos .load2) (by simp) hρ) ?_ (by simp) (fun vs e=>by cases e) (fun e=>by cases e) (.inr rfl) (fun e=>by cases e) (fun e=>by cases e) (by simp only[wtS];omega)
  ·obtain⟨buf,s,r,k1,k2⟩:=h.pr.ch
   exact⟨buf,s,r,by unfold ChAt;rw[T.keep _ h3.cw];exact k1,k2⟩
  ·rw[ck_at h hi,hV,hLa,hLs];exact .done k0' k1 k2
theorem live_put_ch{o:Array Value}{cl:Bool}{s r:Nat}(h:Live X w)(hw3:X.Y.nx≠X.ch∧X.Y.wg≠X.ch)(hl:X.ch<w.heap.size):Live X (put w X.ch (.chan X.n o cl s r false)):=by
 obtain⟨⟨c,a⟩,⟨s',m,b⟩,-,e⟩:=h;exact⟨⟨c,by unfold NxAt;rw[fV _ _ hw3.1];exact a⟩,⟨s',m,by unfold WgAt;rw[fV _ _ hw3.2];exact b⟩,⟨_,_,_,_,fB hl⟩,e⟩
theorem clos_close(h3:Three X)(h:Inv X k0 Γ gs w t c sv sm B closed)(hi:gs[X.Y.cl]? = some g)(hs:Γ.st X.Y.cl=.clos .close)(hd:Deaf t X.Y.cl=0)(hst:CClose X (Γ.own X.Y.cl) g w):Good1 X k0 Γ gs w t c X.Y.cl:=by
 obtain⟨hr,hmw,hstep⟩:=hst;have hlt:X.Y.cl<gs.size:=(Array.getElem?_eq_some_iff.1 hi).1;have hl:=h.wt.live_lt.2.2;have hc:=eU h hs;subst hc;have hcl0:=h.wt.split.cl0;have hm:=h.pr.pa.mode;have hck:=iW h hi hs;rw[hck]at hm;have hw3:X.Y.nx≠X.ch∧X.Y.wg≠X.ch:=⟨h3.cn.symm,h3.cw.symm⟩;obtain⟨buf,s,r,hch,hbuf⟩:=h.pr.ch;obtain⟨g',es,hgo,rfl,q,hq⟩:=hstep buf s r hch;have T:Turn X Γ X.Y.cl noB w (put w X.ch (.chan X.n buf true s r false)):=turn_put h.wt (.inr (.inr rfl)) (live_put_ch h.wt.live hw3 hl) fun _ hb=>hb.elim;have hst0:=h.pr.pa.stage
 refine cZ (closed':=true) h3 h hi hs Nil.old (ρ':=natRk q) hgo T (by unfold NxAt;rw[fV _ _ hw3.1];exact h.pr.nx) (by unfold WgAt;rw[fV _ _ hw3.2];exact h.pr.wg) ⟨buf,s,r,fB hl,hbuf⟩ hcl0 (fun e he=>?_) ⟨rfl,q,rfl,?_⟩ (bF hq.status)
  (by rw[ck_at h hi];exact hm) (by simp) (fun vs e=>by cases e) (fun _ x hx=>?_) (.inl rfl) (fun e=>by cases e) (fun _=>?_) (by simp only[wtS];omega)
 ·simp only[closeEvents,List.mem_toArray,List.mem_cons,List.not_mem_nil,or_false]at he;rcases he with rfl|rfl
  ·refine⟨fun x hx=>?_,by rw[cO];exact hl,by simp⟩;simp only[MemAct.ofEvent,MemAct.touch?,Option.some.injEq]at hx;subst hx;exact⟨.inr (.inr (.inr ⟨rfl,rfl,rfl⟩)),fun e=>by cases e⟩
  ·exact⟨fun x hx=>by simp[MemAct.ofEvent,MemAct.touch?]at hx,by rw[cO];exact hl,by simp⟩
 ·rw[hd];exact hq
 ·have hsx:=(h.si 0 x hx).rely (h.wt.rr T (Ne.symm hcl0));have hk0:=h.wt.kind 0 (Array.getElem?_eq_some_iff.1 hx).1
  cases hs0:Γ.st 0 with
  |old=>rw[hs0]at hk0;exact absurd rfl hk0
  |work s=>rw[hs0]at hk0;have:=hk0.1;have:=h.wt.k0p;omega
  |clos s=>rw[hs0]at hk0;exact absurd hk0.symm hcl0
  |main s =>
   rw[hs0]at hsx
   cases s with
   |recv R dt=>rw[wakes_main hsx (fB hl) hmw hq.status];simp
   |_ =>
    obtain⟨-,hx2|hx2⟩:=hsx
    ·have:=hx2.running fun _ _ _ h=>aB (s:=.main _) h;rw[woken_run this,this];simp
    ·exact hx2.elim
 ·obtain⟨qq,hqq⟩:=h.pr.pt.acq hlt hs;have hnw:=h.pr.pa.no_work hck
  have e1:MemOp.ofEvents X.Y.cl g.frame.fn g.frame.place (closeEvents X.ch)=#[{g:=X.Y.cl,fn:=g.frame.fn,pos:=g.frame.place,act:=.access ⟨.obj X.ch,false,true⟩},{g:=X.Y.cl,fn:=g.frame.fn,pos:=g.frame.place,act:=.close X.ch}]:=by rw[ofEvents_eq];simp[closeEvents,MemAct.ofEvent]
  have hql:=lt_of_act? hqq.qa;rw[e1];generalize hy0:({g:=X.Y.cl,fn:=g.frame.fn,pos:=g.frame.place,act:=.access ⟨.obj X.ch,false,true⟩}:MemOp)=y0;generalize hy1:({g:=X.Y.cl,fn:=g.frame.fn,pos:=g.frame.place,act:=.close X.ch}:MemOp)=y1
  have hyz:(t++#[y0,y1])[t.size]? = some y0:=by simp
  have hy:(t++#[y0,y1])[t.size+1]? = some y1:=by rw[Array.getElem?_append_right (by omega)];simp
  have hdf:(t++#[y0,y1]).deaf X.Y.cl (t.size+1)=0:=by
   simp only[Trace.deaf,hyz,deaf_old (Nat.le_refl _)];subst hy0;exact hd
  refine⟨qq,t.size+1,fun j l1 l2 l3'=>?_,dM h.wt.nrl fun op hop=>by simp at hop;rcases hop with h1|h1<;>rw[h1]<;>first|(rw[←hy0];simp;done)|(rw[←hy1];simp;done),by rw[act?_old hql];exact hqq.qa,by rw[g?_old hql];exact hqq.qg,(heard_old hql).2 hqq.qh,by rw[act?_of hy,←hy1],by unfold Trace.g?;rw[hy,←hy1];rfl,⟨X.Y.cl,by unfold Trace.g?;rw[hy,←hy1];rfl,hdf⟩,by omega,fun i op x hi ho _ _=>?_⟩
  ·rcases l1 with l1|⟨l1,l4⟩
   ·exact absurd l1 l2
   ·have:=h.wt.ncl;obtain⟨r,hr1,hr2⟩:=hqq.rel j l1 (by omega);exact⟨r,hr1.appOther (g:=X.Y.cl) (fun op hop=>by simp at hop;rcases hop with h1|h1<;>rw[h1]<;>first|(rw[←hy0];done)|(rw[←hy1];done)) (Ne.symm l3'),hr2⟩
  ·have:=lt_size_of_getElem? ho;simp at this;omega
end
end Ph
namespace Ph
open Conc Co Cl
open Go.ConcN (sumTo upd sumTo_upd upd_ne upd_same RelBy)
section
variable {X:Cx}{k0 n:Nat}{st:Nat→St}{Γ Γ':Gh}{gs gs':Array Goroutine}{w w':World}{t u:Trace}{i:Nat}{g g':Goroutine}{es:Array Event}{c:Nat}{sv sm:Int}{B B':List Nat}{closed closed':Bool}
def early:MS→Option Nat
 |.dis i|.add i|.rd i|.enab i|.go i=>some i
 |_=>none
theorem jR{s:MS}{j:Nat}(he:early s=some j)(h:MStage X k0 n (.main s)):n=k0+j∧j<X.n:=by
 cases s<;>simp[early]at he<;>subst he<;>exact h
theorem stage_early{s:MS}{j:Nat}(he:early s=some j)(h:n=k0+j∧j<X.n):MStage X k0 n (.main s):=by
 cases s<;>simp[early]at he<;>subst he<;>exact h
theorem sm_main(hk:∀ i,i<n→Kind X k0 i (Γ.st i))(hn:n≤X.Y.cl){s':St}{ρ':Rk}{own':Bl}(hi:i<n)(hs:∀ v,wtS X v s'=wtS X 0 s')(hs2:∀ v,wtS X v (Γ.st i)=wtS X 0 (Γ.st i))(hlt:wtS X 0 s'<wtS X 0 (Γ.st i)):Sm X (Γ.set i s' ρ' own') n c<Sm X Γ n c:=by
 have key:∀ v a,a<n→wtS X v (Γ.st a)=wtS X 0 (Γ.st a):=fun v a ha=>by
  have:=hk a ha
  cases hst:Γ.st a with
  |clos s=>rw[hst]at this;simp only[Kind]at this;omega
  |old=>rfl
  |work s=>cases s<;>rfl
  |main s=>cases s<;>rfl
 unfold Sm;show sumTo n (fun a=>wtS X (sumTo n fun j=>cntW (upd Γ.st i s' j)) (upd Γ.st i s' a))+_<_
 have e1:sumTo n (fun a=>wtS X (sumTo n fun j=>cntW (upd Γ.st i s' j)) (upd Γ.st i s' a))=sumTo n fun a=>wtS X 0 (upd Γ.st i s' a):=Go.ConcN.sumTo_congr fun a ha=>by
  by_cases hai:a=i
  ·subst hai;rw[upd_same];exact hs _
  ·rw[upd_ne _ _ hai];exact key _ a ha
 have e2:sumTo n (fun a=>wtS X (sumTo n fun j=>cntW (Γ.st j)) (Γ.st a))=sumTo n fun a=>wtS X 0 (Γ.st a):=Go.ConcN.sumTo_congr fun a ha=>key _ a ha;rw[e1,e2];have:=bM (st:=Γ.st) (wtS X 0) s' hi;omega
theorem move_main(h3:Three X)(h:Inv X k0 Γ gs w t c sv sm B closed)(hi:gs[0]? = some g){s s':MS}(hs:Γ.st 0=.main s){j:Nat}(he:early s=some j)(he':early s'=some j){ρ':Rk}{sv' sm':Int}
 (hgo:stepG X.P true g w=.go g' w' es) (T:GTurn X w w') (hwg:WgAt X w' sv' sm') (hes:∀ e∈es,EvOk X (Γ.set 0 (.main s') ρ' (Γ.own 0)).ev (lvOf k0 gs.size X.Y.cl) 0 w'.heap.size e)
 (hsit:Sit X true (.main s') ρ' (Γ.own 0) (deafBehind (Deaf t 0) es) g' w') (hnb:g'.status≠.blocked) (hmode:∀ La Ls,La=0→Ls=0→Mode (sumTo gs.size fun a=>cntW (upd Γ.st 0 (.main s') a)) La Ls .before sv' sm') (hwt:wtS X 0 (.main s')<wtS X 0 (.main s)):Good1 X k0 Γ gs w t c 0:=by
 intro sl;have hlt:0<gs.size:=(Array.getElem?_eq_some_iff.1 hi).1;have hcl0:=h.wt.split.cl0;have hstg:=h.pr.pa.stage;rw[hs]at hstg;obtain⟨g1,g2⟩:=jR he hstg;have hclk:=h.pr.pa.clk
 have hck:∀ st,ckOf X.Y.cl gs.size st=.before:=fun st=>by
  unfold ckOf;rw[if_pos (by omega)]
 have z:∀ s:MS,lastW (.main s)=0∧lsemW (.main s)=0∧actW (.main s)=0∧∀ k,inflW k (.main s)=0:=fun s=>⟨rfl,rfl,rfl,fun _=>rfl⟩;have e2:=aO (st:=Γ.st) lastW (s':=.main s') hlt (by rw[hs];rfl);have e3:=aO (st:=Γ.st) lsemW (s':=.main s') hlt (by rw[hs];rfl);have e4:=aO (st:=Γ.st) actW (s':=.main s') hlt (by rw[hs];rfl);have hm:=h.pr.pa.mode;rw[hck]at hm
 have hz:(sumTo gs.size fun a=>lastW (Γ.st a))=0∧(sumTo gs.size fun a=>lsemW (Γ.st a))=0∧sm=0:=by
  generalize (sumTo gs.size fun a=>cntW (Γ.st a))=V at hm;generalize (sumTo gs.size fun a=>lastW (Γ.st a))=La at hm⊢;generalize (sumTo gs.size fun a=>lsemW (Γ.st a))=Ls at hm⊢
  cases hm with
  |opn k1 k2=>exact⟨k1,k2,rfl⟩
 have hm':=hmode _ _ hz.1 hz.2.1
 have hsm':sm'=0:=by
  generalize (sumTo gs.size fun a=>cntW (upd Γ.st 0 (.main s') a))=V at hm';generalize (sumTo gs.size fun a=>lastW (Γ.st a))=La at hm';generalize (sumTo gs.size fun a=>lsemW (Γ.st a))=Ls at hm'
  cases hm' with
  |opn k1 k2=>rfl
 have got:∀ s:MS,early s=some j→gotOf (.main s)=[]:=fun s h=>by cases s<;>first|rfl|cases h
 have hrun:=runT_crowd_go (sl:=sl) (i:=0) hi hgo
 have hcf:closed=false:=by
  cases hc:closed with
  |false=>rfl
  |true=>have:=(h.pr.pa.cld.1 hc).1;omega
 subst hcf;refine⟨_,Γ.set 0 (.main s') ρ' (Γ.own 0),_,_,c,sv',sm',B,false,hrun,?_,lt_sm ?_⟩
 ·refine h.go hi (.inl (.inl rfl)) ⟨Nat.le_of_eq T.size.symm,fun x _ _ _ h2 _=>T.keep x h2,T.live,fun b hb=>by rw[T.size];exact h.wt.ownlt _ _ hb,fun b hb=>.inl hb⟩ (show Kind X k0 0 (.main s') from rfl) hes hsit hnb ?_ (by unfold NxAt;rw[T.keep _ h3.nw];exact h.pr.nx) hwg ?_ (fun e=>.inl e) (.inr (.inl hsm')) (fun e=>by rw[hs]at e;cases e) (fun e=>by cases e) (fun e=>by cases e)
   (fun e=>by cases e) (fun e=>.inl e) (fun R dt e=>?_)
  ·refine⟨h.pr.pa.clk,by rw[e4];exact h.pr.pa.cb,by rw[hck,e2,e3];exact hm',h.pr.pa.blen,fun k hk=>?_,?_,fun j' k hj e=>?_,?_,?_,fun vs hv=>by omega,fun j' h1 h2 h3 e=>h.pr.pa.pas j' h1 h2 h3 (by rwa[upd_ne _ _ (by have:=h.wt.k0p;omega)]at e)⟩
   ·have e5:=aO (st:=Γ.st) (inflW k) (s':=.main s') hlt (by rw[hs];rfl);have:=h.pr.pa.count k hk;rw[hs,got s he]at this;rw[upd_same,e5,got s' he'];exact this
   ·rw[upd_same,got s' he'];simp
   ·by_cases hj0:j'=0
    ·subst hj0;rw[upd_same]at e;cases e
    ·rw[upd_ne _ _ hj0]at e;exact h.pr.pa.inS j' k hj e
   ·rw[upd_same];exact stage_early he' ⟨g1,g2⟩
   ·rw[upd_ne _ _ hcl0];exact h.pr.pa.cld
  ·obtain⟨buf,s,r,k1,k2⟩:=h.pr.ch
   exact⟨buf,s,r,by unfold ChAt;rw[T.keep _ h3.cw];exact k1,k2⟩
  ·rw[upd_same]at e;injection e with e;subst e;cases he'
 ·rw[show((gs.map (woken X.P g g' w')).setIfInBounds 0 g').size=gs.size by simp]
  exact sm_main h.wt.kind (by omega) hlt (fun v=>by cases s'<;>rfl) (fun v=>by rw[hs];cases s<;>rfl) (by rw[hs];exact hwt)
theorem cnt_main(hi:0<n){st:Nat→St}{s s':MS}(hs:st 0=.main s):sumTo n (fun a=>cntW (upd st 0 (.main s') a))+cntW (.main s)=sumTo n (fun a=>cntW (st a))+cntW (.main s'):=by
 have:=bM (st:=st) cntW (.main s') hi;rwa[hs]at this
theorem lF(h:Inv X k0 Γ gs w t c sv sm B closed)(hs0:0<gs.size){s:MS}(hs:Γ.st 0=.main s){j:Nat}(he:early s=some j):(sv=(sumTo gs.size fun a=>cntW (Γ.st a):Nat)*KK∧sm=0)∧gs.size≤X.Y.cl:=by
 have hstg:=h.pr.pa.stage;rw[hs]at hstg;obtain⟨g1,g2⟩:=jR he hstg;have hclk:=h.pr.pa.clk;have hm:=h.pr.pa.mode
 have hck:ckOf X.Y.cl gs.size Γ.st=.before:=by
  unfold ckOf;rw[if_pos (by omega)]
 rw[hck]at hm;refine⟨?_,by omega⟩;generalize (sumTo gs.size fun a=>cntW (Γ.st a))=V at hm⊢;generalize (sumTo gs.size fun a=>lastW (Γ.st a))=La at hm;generalize (sumTo gs.size fun a=>lsemW (Γ.st a))=Ls at hm
 cases hm with
 |opn k1 k2=>exact⟨rfl,rfl⟩
theorem oD(h3:Three X)(h:Inv X k0 Γ gs w t c sv sm B closed)(hi:gs[0]? = some g){s s':MS}(hs:Γ.st 0=.main s){j:Nat}(he:early s=some j)(he':early s'=some j){m:Mark}(hgo:stepG X.P true g w=.go g' w #[Ph.mk m])(hr:Gl X true dT (mstop X s') (Γ.own 0) g' w)
 (hev:∀ ev,EvOk X ev (lvOf k0 gs.size X.Y.cl) 0 w.heap.size (Ph.mk m)) (hd:deafBehind (Deaf t 0) #[Ph.mk m]=jw (.main s')) (hc:cntW (.main s')=cntW (.main s)) (hwt:wtS X 0 (.main s')<wtS X 0 (.main s)):Good1 X k0 Γ gs w t c 0:=by
 obtain⟨ρ',hρ⟩:=hr;have hlt:0<gs.size:=(Array.getElem?_eq_some_iff.1 hi).1;obtain⟨⟨m1,m2⟩,-⟩:=lF h hlt hs he
 refine move_main h3 h hi hs he he' (ρ':=ρ') hgo (.same h.wt.live) h.pr.wg (fun e he=>by
  simp at he;subst he
  exact hev _) ⟨hd,.inl hρ⟩ (bu (s:=.main s') (by simp) hρ) (fun La Ls k1 k2=>?_) hwt
 have:=cnt_main (s':=s') hlt hs;rw[show sumTo gs.size (fun a=>cntW (upd Γ.st 0 (.main s') a))=sumTo gs.size fun a=>cntW (Γ.st a) by omega,m1,m2];exact .opn k1 k2
theorem main_dis(h3:Three X)(h:Inv X k0 Γ gs w t c sv sm B closed)(hi:gs[0]? = some g){j:Nat}(hs:Γ.st 0=.main (.dis j))(hd:Deaf t 0=0)(hst:MDis X j (Γ.own 0) g w):Good1 X k0 Γ gs w t c 0:=by
 obtain⟨hr,g',hgo,hn⟩:=hst;exact oD (s':=.add j) h3 h hi hs rfl rfl hgo hn (fun ev=>fC (m:=.disable) rfl trivial (by simp) _ (by simp)) (by rw[hd];rfl) rfl (by simp only[wtS];omega)
theorem main_enab(h3:Three X)(h:Inv X k0 Γ gs w t c sv sm B closed)(hi:gs[0]? = some g){j:Nat}(hs:Γ.st 0=.main (.enab j))(hd:Deaf t 0=1)(hst:MEnab X j (Γ.own 0) g w):Good1 X k0 Γ gs w t c 0:=by
 obtain⟨hr,g',hgo,hn⟩:=hst;exact oD (s':=.go j) h3 h hi hs rfl rfl hgo hn (fun ev=>fC (m:=.enable) rfl trivial (by simp) _ (by simp)) (by rw[hd];rfl) rfl (by simp only[wtS];omega)
theorem main_rd(h3:Three X)(h:Inv X k0 Γ gs w t c sv sm B closed)(hi:gs[0]? = some g){j:Nat}(hs:Γ.st 0=.main (.rd j))(hd:Deaf t 0=1)(hst:MRd X j (Γ.own 0) g w):Good1 X k0 Γ gs w t c 0:=by
 obtain⟨hr,g',hgo,hn⟩:=hst;have hlt:0<gs.size:=(Array.getElem?_eq_some_iff.1 hi).1;obtain⟨-,m3⟩:=lF h hlt hs rfl;refine oD (s':=.enab j) h3 h hi hs rfl rfl hgo hn (fun ev=>⟨fun x hx=>?_,h.wt.live_lt.2.1,by simp[Ph.mk]⟩) (by rw[hd];rfl) rfl (by simp only[wtS];omega);simp only[Ph.mk,MemAct.ofEvent,MemAct.touch?,Option.some.injEq]at hx;subst hx;refine⟨.inr (.inr (.inl ⟨rfl,rfl,.inl ⟨rfl,rfl⟩⟩)),fun _ _ hl=>?_⟩;rcases hl with hl|⟨-,hl⟩
 ·exact h.wt.split.cl0 hl
 ·omega
theorem main_add(h3:Three X)(h:Inv X k0 Γ gs w t c sv sm B closed)(hi:gs[0]? = some g){j:Nat}(hs:Γ.st 0=.main (.add j))(hd:Deaf t 0=1)(hst:MAdd X j (Γ.own 0) g w):Good1 X k0 Γ gs w t c 0:=by
 obtain⟨hr,hstep⟩:=hst;have hlt:0<gs.size:=(Array.getElem?_eq_some_iff.1 hi).1;obtain⟨⟨m1,m2⟩,m3⟩:=lF h hlt hs rfl;have hcn:=cnt_le h;have hsml:=h3.small;have hfew:=h3.few;have hl:=h.wt.live_lt.2.1;have hwg:=h.pr.wg;rw[m1,m2]at hwg;obtain⟨g',es,hgo,hev,h0,h1⟩:=hstep (sumTo gs.size fun a=>cntW (Γ.st a)) (by omega) hwg
 have fin:∀ (s':MS) (ρ':Rk),early s'=some j→cntW (.main s')=1→jw (.main s')=1→wtS X 0 (.main s')<wtS X 0 (.main (.add j))→Run X true dT (mstop X s') ρ' (Γ.own 0) g' (put w X.Y.wg (X.wgO (((sumTo gs.size fun a=>cntW (Γ.st a):Nat)+1)*KK) 0))→Good1 X k0 Γ gs w t c 0:=by
  intro s' ρ' he' hc1 hda hwt hρ;refine move_main h3 h hi hs rfl he' (ρ':=ρ') hgo (.put h3 h.wt.live) (fB hl) (iF hev (.inr rfl) (by rw[cO];exact hl)) (by rw[aX hev,hd];exact⟨hda.symm,.inl hρ⟩) (bu (s:=.main s') (by simp) hρ) (fun La Ls k1 k2=>?_) hwt;have:=cnt_main (s':=s') hlt hs;rw[hc1,show cntW (.main (.add j))=0 from rfl]at this;rw[show sumTo gs.size (fun a=>cntW (upd Γ.st 0 (.main s') a))=(sumTo gs.size fun a=>cntW (Γ.st a))+1 by omega];have:=Mode.opn (v:=(sumTo gs.size fun a=>cntW (Γ.st a))+1) k1 k2;simpa using this
 by_cases hv:(sumTo gs.size fun a=>cntW (Γ.st a))=0
 ·obtain⟨ρ',hρ⟩:=h0 hv
  exact fin (.rd j) ρ' rfl rfl rfl (by simp only[wtS];omega) hρ
 ·obtain⟨ρ',hρ⟩:=h1 hv
  exact fin (.enab j) ρ' rfl rfl rfl (by simp only[wtS];omega) hρ
end
end Ph
