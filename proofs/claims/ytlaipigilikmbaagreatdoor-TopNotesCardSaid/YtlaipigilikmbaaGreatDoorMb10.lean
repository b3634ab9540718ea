/- Texts of this seat,put together: PhSpawn,PhLook,PhStart,CoOk,ClOk,CoSound,ClSound,WkBase. -/
import Derived.Test.YtlaipigilikmbaaGreatDoorMb9
import Derived.Test.YtlaipigilikmbaaGreatDoorMb7
import Derived.Test.YtlaipigilikmbaaGreatDoorProg
namespace Go.Proofs.YtlaipigilikmbaaGreatDoor
noncomputable section
set_option linter.unusedVariables false
set_option linter.unusedSimpArgs false
namespace Ph
open Conc Co Cl
open Go.ConcN (sumTo upd sumTo_upd upd_ne upd_same RelBy)
section
variable {X:Cx}{k0 n:Nat}{st:Nat→St}{Γ Γ':Gh}{gs gs':Array Goroutine}{w w':World}{t u:Trace}{i:Nat}{g g' child:Goroutine}{es:Array Event}{c:Nat}{sv sm:Int}{B B':List Nat}{closed closed':Bool}
theorem mY{a:Array Goroutine}{j:Nat}{x y:Goroutine}(h:(a.push x)[j]? = some y):(j=a.size∧y=x)∨(j<a.size∧a[j]? = some y):=by
 rw[Array.getElem?_push]at h;by_cases hj:j=a.size
 ·rw[if_pos hj]at h;exact .inl ⟨hj,(Option.some.inj h).symm⟩
 ·rw[if_neg hj]at h;exact .inr ⟨(Array.getElem?_eq_some_iff.1 h).1,h⟩
theorem move_spawn(h:Inv X k0 Γ gs w t c sv sm B closed)(hi:gs[0]? = some g){s:MS}(hs:Γ.st 0=.main s){s':MS}{ns:St}{ρ0 ρn:Rk}(hgo:stepG X.P true g w=.spawn g' child w #[])(hd:Deaf t 0=0)(hn:gs.size≤X.Y.cl)
 (hs0:Sit X true (.main s') ρ0 (Γ.own 0) 0 g' w) (hsn:Sit X false ns ρn noB 0 child w) (hr0:g'.status=.running) (hrn:child.status=.running) (hk:Kind X k0 gs.size ns) (hnr:relW ns=false) (hncl:ns≠.clos .close)
 (pa':PA X k0 (gs.size+1) (upd (upd Γ.st 0 (.main s')) gs.size ns) c sv sm B false) (mdt':∀ R dt,s'=.recv R dt→∀ b,dt b→Γ.data b)
 (hS:Sm X {st:=upd (upd Γ.st 0 (.main s')) gs.size ns,rk:=Γ.rk,own:=Γ.own,ev:=Γ.ev,data:=Γ.data} (gs.size+1) c<Sm X Γ gs.size c):Good1 X k0 Γ gs w t c 0:=by
 intro sl;have hlt:0<gs.size:=(Array.getElem?_eq_some_iff.1 hi).1;have hcl0:=h.wt.split.cl0
 have hcf:closed=false:=by
  cases hc:closed with
  |false=>rfl
  |true=>have:=(h.pr.pa.cld.1 hc).1;omega
 subst hcf;have hrun:=runT_crowd_spawn (sl:=sl) (i:=0) hi hgo;rw[bG]at hrun
 have hne:(gs.size:Nat)≠0:=by omega
 have ho:∀ j b,upd Γ.own gs.size noB j b→Γ.own j b:=fun j b hb=>by
  by_cases hji:j=gs.size
  ·subst hji;rw[upd_same]at hb;exact hb.elim
  ·rwa[upd_ne _ _ hji]at hb
 refine⟨_,{st:=upd (upd Γ.st 0 (.main s')) gs.size ns,rk:=upd (upd Γ.rk 0 ρ0) gs.size ρn,own:=upd Γ.own gs.size noB,ev:=Γ.ev,data:=Γ.data},_,_,c,sv,sm,B,false,hrun,?_,lt_sm ?_⟩
 ·have hsz:((gs.setIfInBounds 0 g').push child).size=gs.size+1:=by simp
  have hwt:=h.wt.spawn (Γ':={st:=upd (upd Γ.st 0 (.main s')) gs.size ns,rk:=upd (upd Γ.rk 0 ρ0) gs.size ρn,own:=upd Γ.own gs.size noB,ev:=Γ.ev,data:=Γ.data}) (x:={g:=0,fn:=g.frame.fn,pos:=g.frame.place,act:=.go gs.size}) (y:={g:=gs.size,fn:=child.frame.fn,pos:=g.frame.place,act:=.start}) ⟨rfl,rfl⟩ ⟨rfl,rfl⟩ hd hn ho rfl rfl fun j hj=>by
   show Kind X k0 j (upd (upd Γ.st 0 _) gs.size _ j);by_cases hjn:j=gs.size
   ·subst hjn;rw[upd_same];exact hk
   ·rw[upd_ne _ _ hjn];by_cases hj0:j=0
    ·subst hj0;rw[upd_same];rfl
    ·rw[upd_ne _ _ hj0];exact h.wt.kind j (by omega)
  have hu:∀ op∈#[({g:=0,fn:=g.frame.fn,pos:=g.frame.place,act:=.go gs.size}:MemOp),{g:=gs.size,fn:=child.frame.fn,pos:=g.frame.place,act:=.start}],Hand X w.heap.size op:=by
   intro op hop;simp only[List.mem_toArray,List.mem_cons,List.not_mem_nil,or_false]at hop;rcases hop with rfl|rfl
   ·exact⟨rfl,by simp,by simp,trivial,by simp⟩
   ·exact⟨rfl,by simp,by simp,trivial,by simp⟩
  refine⟨by rw[hsz];exact hwt,fun j x hx=>?_,⟨by rw[hsz];exact pa',h.pr.nx,h.pr.wg,h.pr.ch,⟨fun j x k' hx he hb=>?_,fun x hx hb=>?_,fun x hx hb=>?_⟩,?_,fun R dt e b hb=>?_⟩⟩
  ·have hdj:Deaf (t++(#[].push ({g:=0,fn:=g.frame.fn,pos:=g.frame.place,act:=.go gs.size}:MemOp)).push {g:=gs.size,fn:=child.frame.fn,pos:=g.frame.place,act:=.start}) j=Deaf t j:=eX (u:=#[({g:=0,fn:=g.frame.fn,pos:=g.frame.place,act:=.go gs.size}:MemOp),{g:=gs.size,fn:=child.frame.fn,pos:=g.frame.place,act:=.start}]) hu j;rw[hdj];rcases mY hx with⟨hj,rfl⟩|⟨hj,hx⟩
   ·rw[show(gs.setIfInBounds 0 g').size=gs.size by simp]at hj;subst hj;simp only[upd_same];rw[h.wt.above _ (Nat.le_refl _),show(gs.size==0)=false by simpa using hne];exact hsn
   ·rw[show(gs.setIfInBounds 0 g').size=gs.size by simp]at hj
    have hjn:j≠gs.size:=by omega
    simp only[upd_ne _ _ hjn];rcases aG hx with⟨rfl,rfl⟩|⟨hj0,hx⟩
    ·simp only[upd_same];rw[hd];exact hs0
    ·simp only[upd_ne _ _ hj0];exact h.si j x hx
  ·change upd (upd Γ.st 0 _) gs.size _ j=_ at he
   rcases mY hx with⟨hj,rfl⟩|⟨hj,hx⟩
   ·rw[hrn]at hb;cases hb
   ·rw[show(gs.setIfInBounds 0 g').size=gs.size by simp]at hj;rw[upd_ne _ _ (by omega)]at he;rcases aG hx with⟨rfl,rfl⟩|⟨hj0,hx⟩
    ·rw[hr0]at hb;cases hb
    ·rw[upd_ne _ _ hj0]at he;exact h.pr.pb.full j x k' hx he hb
  ·rcases mY hx with⟨hj,rfl⟩|⟨hj,hx⟩
   ·rw[hrn]at hb;cases hb
   ·rcases aG hx with⟨-,rfl⟩|⟨hj0,hx⟩
    ·rw[hr0]at hb;cases hb
    ·exact absurd rfl hj0
  ·rcases mY hx with⟨hj,rfl⟩|⟨hj,hx⟩
   ·rw[hrn]at hb;cases hb
   ·rcases aG hx with⟨e,rfl⟩|⟨hj0,hx⟩
    ·exact absurd e hcl0
    ·exact h.pr.pb.cblk x hx hb
  ·rw[hsz];refine⟨fun j h1 h2 h3 hj=>?_,fun h1 hj=>?_,fun hc=>by cases hc⟩
   ·change relW (upd (upd Γ.st 0 _) gs.size _ j)=true at hj
    by_cases hjn:j=gs.size
    ·subst hjn;rw[upd_same,hnr]at hj;cases hj
    ·rw[upd_ne _ _ hjn]at hj;by_cases hj0:j=0
     ·subst hj0;rw[upd_same]at hj;cases hj
     ·rw[upd_ne _ _ hj0]at hj;obtain⟨r,hr⟩:=h.pr.pt.rel j h1 h2 (by omega) hj;exact⟨r,iG (u:=#[({g:=0,fn:=g.frame.fn,pos:=g.frame.place,act:=.go gs.size}:MemOp),{g:=gs.size,fn:=child.frame.fn,pos:=g.frame.place,act:=.start}]) hr hu⟩
   ·change upd (upd Γ.st 0 _) gs.size _ X.Y.cl=_ at hj
    have:X.Y.cl=gs.size:=by omega
    rw[this,upd_same]at hj;exact absurd hj hncl
  ·replace e:upd (upd Γ.st 0 (.main s')) gs.size ns 0=.main (.recv R dt):=e;rw[upd_ne _ _ (Ne.symm hne),upd_same]at e;exact mdt' R dt (St.main.inj e) b hb
 ·rw[show((gs.setIfInBounds 0 g').push child).size=gs.size+1 by simp];exact hS
theorem sum_push{φ:St→Nat}{s':MS}{ns:St}(hn:0<n)(hs:st 0=st 0):sumTo (n+1) (fun a=>φ (upd (upd st 0 (.main s')) n ns a))+φ (st 0)=sumTo n (fun a=>φ (st a))+φ (.main s')+φ ns:=by
 have e1:=bM (st:=st) φ (.main s') hn
 have e2:sumTo n (fun a=>φ (upd (upd st 0 (.main s')) n ns a))=sumTo n fun a=>φ (upd st 0 (.main s') a):=Go.ConcN.sumTo_congr fun a ha=>by rw[upd_ne _ _ (by omega)]
 simp only[sumTo,upd_same];rw[e2];omega
theorem spawn_pa(h:Inv X k0 Γ gs w t c sv sm B closed)(hlt:0<gs.size){s s':MS}{ns:St}(hs:Γ.st 0=.main s)(hn:gs.size≤X.Y.cl)(hg:gotOf (.main s)=[]∧gotOf (.main s')=[])(hc:cntW (.main s')+cntW ns=cntW (.main s))(hz:lastW ns=0∧lsemW ns=0∧∀ k,inflW k ns=0)(hns:∀ k,ns≠.work (.send k))(hna:gs.size<X.Y.cl→actW ns≠0)(hact:actW ns+(X.Y.cl-(gs.size+1))=X.Y.cl-gs.size)
 (hstg:MStage X k0 (gs.size+1) (.main s')) (hck:gs.size=X.Y.cl→ckS ns=.before∧ns≠.old∧∀ vs,ns≠.clos (.cas vs)):PA X k0 (gs.size+1) (upd (upd Γ.st 0 (.main s')) gs.size ns) c sv sm B false:=by
 have hcf:closed=false:=by
  cases hc:closed with
  |false=>rfl
  |true=>have:=(h.pr.pa.cld.1 hc).1;omega
 subst hcf
 have hne:(gs.size:Nat)≠0:=by omega
 have hcl0:=h.wt.split.cl0;have e1:=sum_push (φ:=cntW) (st:=Γ.st) (s':=s') (ns:=ns) hlt rfl;have e2:=sum_push (φ:=lastW) (st:=Γ.st) (s':=s') (ns:=ns) hlt rfl;have e3:=sum_push (φ:=lsemW) (st:=Γ.st) (s':=s') (ns:=ns) hlt rfl;have e4:=sum_push (φ:=actW) (st:=Γ.st) (s':=s') (ns:=ns) hlt rfl;rw[hs]at e1 e2 e3 e4;rw[hz.1,show lastW (.main s)=0 from rfl,show lastW (.main s')=0 from rfl]at e2;rw[hz.2.1,show lsemW (.main s)=0 from rfl,show lsemW (.main s')=0 from rfl]at e3;rw[show actW (.main s)=0 from rfl,show actW (.main s')=0 from rfl]at e4
 have hck0:ckOf X.Y.cl gs.size Γ.st=.before:=by
  unfold ckOf;rw[if_pos hn]
 have hck1:ckOf X.Y.cl (gs.size+1) (upd (upd Γ.st 0 (.main s')) gs.size ns)=.before:=by
  unfold ckOf;by_cases hh:gs.size+1≤X.Y.cl
  ·rw[if_pos hh]
  ·rw[if_neg hh,show X.Y.cl=gs.size by omega,upd_same];exact(hck (by omega)).1
 refine⟨h.pr.pa.clk,h.pr.pa.cb.imp id fun hh=>by omega,?_,h.pr.pa.blen,fun k hk=>?_,?_,fun j k hj e=>?_,?_,?_,fun vs hv e=>?_,fun j h1 h2 h3 e=>?_⟩
 ·have hm:=h.pr.pa.mode;rw[hck0]at hm;rw[hck1,show sumTo (gs.size+1) (fun a=>cntW (upd (upd Γ.st 0 (.main s')) gs.size ns a))=sumTo gs.size fun a=>cntW (Γ.st a) by omega,show sumTo (gs.size+1) (fun a=>lastW (upd (upd Γ.st 0 (.main s')) gs.size ns a))=sumTo gs.size fun a=>lastW (Γ.st a) by omega,show sumTo (gs.size+1) (fun a=>lsemW (upd (upd Γ.st 0 (.main s')) gs.size ns a))=sumTo gs.size fun a=>lsemW (Γ.st a) by omega];exact hm
 ·have e5:=sum_push (φ:=inflW k) (st:=Γ.st) (s':=s') (ns:=ns) hlt rfl;rw[hs,hz.2.2 k,show inflW k (.main s)=0 from rfl,show inflW k (.main s')=0 from rfl]at e5;have:=h.pr.pa.count k hk;rw[hs,hg.1]at this;rw[upd_ne _ _ (Ne.symm hne),upd_same,hg.2];omega
 ·rw[upd_ne _ _ (Ne.symm hne),upd_same,hg.2];simp
 ·by_cases hjn:j=gs.size
  ·subst hjn;rw[upd_same]at e;exact absurd e (hns k)
  ·rw[upd_ne _ _ hjn]at e;by_cases hj0:j=0
   ·subst hj0;rw[upd_same]at e;cases e
   ·rw[upd_ne _ _ hj0]at e;exact h.pr.pa.inS j k (by omega) e
 ·rw[upd_ne _ _ (Ne.symm hne),upd_same];exact hstg
 ·refine⟨fun e=>(by cases e),fun⟨h1,h2⟩=>?_⟩
  have:X.Y.cl=gs.size:=by omega
  rw[this,upd_same]at h2;exact absurd h2 (hck this.symm).2.1
 ·have:X.Y.cl=gs.size:=by omega
  rw[this,upd_same]at e;exact absurd e ((hck this.symm).2.2 vs)
 ·by_cases hjn:j=gs.size
  ·subst hjn;rw[upd_same]at e;exact absurd e (hna h2)
  ·rw[upd_ne _ _ hjn,upd_ne _ _ (by have:=h.wt.k0p;omega)]at e;exact h.pr.pa.pas j h1 h2 (by omega) e
theorem sm_spawn(hk:∀ i,i<n→Kind X k0 i (Γ.st i))(hn:n≤X.Y.cl)(hlt:0<n){s s':MS}{ns:St}(hs:Γ.st 0=.main s){V:Nat}(hV:(sumTo (n+1) fun a=>cntW (upd (upd Γ.st 0 (.main s')) n ns a))=V)(hw:wtS X 0 (.main s')+wtS X V ns<wtS X 0 (.main s)) :
 Sm X {st:=upd (upd Γ.st 0 (.main s')) n ns,rk:=Γ.rk,own:=Γ.own,ev:=Γ.ev,data:=Γ.data} (n+1) c<Sm X Γ n c:=by
 have key:∀ v a,a<n→wtS X v (Γ.st a)=wtS X 0 (Γ.st a):=fun v a ha=>by
  have:=hk a ha
  cases hst:Γ.st a with
  |clos s=>rw[hst]at this;simp only[Kind]at this;omega
  |old=>rfl
  |work s=>cases s<;>rfl
  |main s=>cases s<;>rfl
 have km:∀ v (s:MS),wtS X v (.main s)=wtS X 0 (.main s):=fun v s=>by cases s<;>rfl
 unfold Sm;show sumTo (n+1) (fun a=>wtS X (sumTo (n+1) fun j=>cntW (upd (upd Γ.st 0 (.main s')) n ns j)) (upd (upd Γ.st 0 (.main s')) n ns a))+_<_;rw[hV];have e0:=sum_push (φ:=wtS X V) (st:=Γ.st) (s':=s') (ns:=ns) hlt rfl;rw[hs,km V s,km V s']at e0;have e1:sumTo n (fun a=>wtS X V (Γ.st a))=sumTo n fun a=>wtS X 0 (Γ.st a):=Go.ConcN.sumTo_congr fun a ha=>key _ a ha;have e2:sumTo n (fun a=>wtS X (sumTo n fun j=>cntW (Γ.st j)) (Γ.st a))=sumTo n fun a=>wtS X 0 (Γ.st a):=Go.ConcN.sumTo_congr fun a ha=>key _ a ha;rw[e2];omega
theorem main_go(W:Walks X)(h:Inv X k0 Γ gs w t c sv sm B closed)(hi:gs[0]? = some g){j:Nat}(hs:Γ.st 0=.main (.go j))(hd:Deaf t 0=0)(hst:MGo X j (Γ.own 0) g w):Good1 X k0 Γ gs w t c 0:=by
 obtain⟨hr,g',child,hgo,hcr,hcw,hsp⟩:=hst;have hlt:0<gs.size:=(Array.getElem?_eq_some_iff.1 hi).1;have hstg:=h.pr.pa.stage;rw[hs]at hstg;obtain⟨g1,g2⟩:=jR (s:=.go j) rfl hstg;have hclk:=h.pr.pa.clk
 have hn:gs.size≤X.Y.cl:=by omega
 obtain⟨ρn,hρn⟩:=hcw w (.refl _ _ _);have hcs:cntW (.main (.go j))=1:=rfl
 have fin:∀ (s':MS) (ρ0:Rk),cntW (.main s')=0→gotOf (.main s')=[]→MStage X k0 (gs.size+1) (.main s')→jw (.main s')=0→(∀R dt,s'≠.recv R dt)→wtS X 0 (.main s')+20<wtS X 0 (.main (.go j))→dOf (.main s')=dT→Run X true dT (mstop X s') ρ0 (Γ.own 0) g' w→Good1 X k0 Γ gs w t c 0:=by
  intro s' ρ0 hc0 hg0 hst' hda hnr hw hdo hρ0;have hr0:g'.status=.running:=hρ0.running fun _ _ _ h=>aB (s:=.main s') h;have pa':=spawn_pa (s':=s') (ns:=.work .add) h hlt hs hn ⟨rfl,hg0⟩ (by rw[hc0,hcs];rfl) ⟨rfl,rfl,fun _=>rfl⟩ (by simp) (fun _=>by simp[actW]) (by show 1+_=_;omega) hst' (fun e=>by omega);refine move_spawn (ρn:=ρn) (ρ0:=ρ0) (ns:=.work .add) (s':=s') h hi hs hgo hd hn ⟨hda.symm,.inl (by rw[hdo];exact hρ0)⟩ ⟨rfl,.inl hρn⟩ hr0 hcr ⟨by omega,by omega⟩ rfl (by simp) pa' (fun R dt e=>absurd e (hnr R dt)) ?_;exact sm_spawn h.wt.kind hn hlt hs rfl hw
 by_cases hj:j+1<X.n
 ·obtain⟨ρ0,hρ0⟩:=W.sp (j+1) _ g' w hj (hsp w (.refl _ _ _));refine fin (.dis (j+1)) ρ0 rfl rfl ⟨by omega,hj⟩ rfl (by simp) ?_ rfl hρ0;obtain⟨m,hm⟩:∃ m,X.n-j=m+1:=⟨X.n-j-1,by omega⟩
  have:X.n-(j+1)=m:=by omega
  simp only[wtS,hm,this];omega
 ·have e:j+1=X.n:=by omega
  have hA:=hsp w (.refl _ _ _);rw[e]at hA;obtain⟨ρ0,hρ0⟩:=W.spn _ g' w hA;refine fin .goc ρ0 rfl rfl (by show gs.size+1=k0+X.n;omega) rfl (by simp) ?_ rfl hρ0
  have:X.n-j=1:=by omega
  simp only[wtS,this];omega
theorem main_goc(W:Walks X)(h:Inv X k0 Γ gs w t c sv sm B closed)(hi:gs[0]? = some g)(hs:Γ.st 0=.main .goc)(hd:Deaf t 0=0)(hst:MGoc X (Γ.own 0) g w):Good1 X k0 Γ gs w t c 0:=by
 obtain⟨hr,g',child,hgo,hcr,⟨ρn,hρn⟩,hrec⟩:=hst;have hlt:0<gs.size:=(Array.getElem?_eq_some_iff.1 hi).1;have hstg:=h.pr.pa.stage;rw[hs]at hstg;have g1:gs.size=k0+X.n:=hstg;have hclk:=h.pr.pa.clk
 have hn:gs.size≤X.Y.cl:=by omega
 have hcl:gs.size=X.Y.cl:=by omega
 obtain⟨ρ0,hρ0⟩:=W.recv [] noB _ g' w (hrec w (.refl _ _ _)) fun b hb=>hb.elim;have hr0:g'.status=.running:=hρ0.running fun _ _ _ h=>aB (s:=.main (.recv [] noB)) h;have pa':=spawn_pa (s':=.recv [] noB) (ns:=.clos .dis) h hlt hs hn ⟨rfl,rfl⟩ rfl ⟨rfl,rfl,fun _=>rfl⟩ (by simp) (fun e=>by omega) (by show 0+_=_;omega) (by show gs.size+1=k0+X.n+1;omega) (fun _=>⟨rfl,by simp,by simp⟩);refine move_spawn (ρn:=ρn) (ρ0:=ρ0) (ns:=.clos .dis) (s':=.recv [] noB) h hi hs hgo hd hn ⟨rfl,.inl hρ0⟩ ⟨rfl,.inl hρn⟩ hr0 hcr hcl rfl (by simp) pa' (fun R dt e b hb=>by cases e;exact hb.elim) ?_;have e1:=sum_push (φ:=cntW) (st:=Γ.st) (s':=.recv [] noB) (ns:=.clos .dis) hlt rfl;rw[hs,show cntW (.main .goc)=0 from rfl,show cntW (.main (.recv [] noB))=0 from rfl,show cntW (.clos .dis)=0 from rfl]at e1;have hc:=cnt_le h;refine sm_spawn h.wt.kind hn hlt hs rfl ?_;simp only[wtS,List.length_nil];omega
end
end Ph
namespace Ph
open Conc Co Cl
open Go.ConcN (sumTo upd sumTo_upd upd_ne upd_same RelBy)
section
variable {X:Cx}{k0 n:Nat}{st:Nat→St}{Γ Γ':Gh}{gs gs':Array Goroutine}{w w':World}{t u:Trace}{i:Nat}{g g' child:Goroutine}{es:Array Event}{c:Nat}{sv sm:Int}{B B':List Nat}{closed closed':Bool}{Q:Value→World→Prop}{Z':Nat→Prop}
theorem rr_at(own:Bl)(w:World)(d:Nat):RR X own w (w.at d):=⟨⟨Nat.le_refl _,fun _ _ _=>rfl⟩,fun h=>⟨h.nx,h.wg,h.ch,h.still⟩⟩
theorem Inv.at(h:Inv X k0 Γ gs w t c sv sm B closed)(d:Nat):Inv X k0 Γ gs (w.at d) t c sv sm B closed:=by
 refine⟨⟨h.wt.k0p,h.wt.k0n,h.wt.ncl,h.wt.k0c,h.wt.above,⟨h.wt.live.nx,h.wt.live.wg,h.wt.live.ch,h.wt.live.still⟩,h.wt.ownlt,h.wt.ownev,h.wt.evlt,h.wt.evch,h.wt.split,h.wt.data,h.wt.dataown,h.wt.datash,h.wt.rolt,h.wt.roch,h.wt.zlt,h.wt.ti,h.wt.low,h.wt.nrl,h.wt.kind⟩,fun j x hx=>(h.si j x hx).rely (rr_at _ w d),⟨h.pr.pa,h.pr.nx,h.pr.wg,h.pr.ch,h.pr.pb,h.pr.pt,h.pr.mdt⟩⟩
theorem sum_pos{f:Nat→Nat}:∀ {n:Nat},1≤sumTo n f→∃ i,i<n∧1≤f i
 |n+1,h=>by
  simp only[sumTo]at h;by_cases h1:1≤sumTo n f
  ·obtain⟨i,hi,hf⟩:=sum_pos h1;exact⟨i,by omega,hf⟩
  ·exact⟨n,by omega,by omega⟩
theorem someone(h:Inv X k0 Γ gs w t c sv sm B closed):∃ (i:Nat) (g:Goroutine),gs[i]? = some g∧g.status=.running:=by
 apply Classical.byContradiction
 intro hno;have nr:∀ (i:Nat) g,gs[i]? = some g→g.status≠.running:=fun i g hi hr=>hno ⟨i,g,hi,hr⟩;obtain⟨x0,hx0⟩:=main_at h;have hp0:0<gs.size:=(Array.getElem?_eq_some_iff.1 hx0).1;have hcl0:=h.wt.split.cl0;have hk0:=h.wt.kind 0 hp0
 have hb0:x0.status=.blocked:=by
  rcases(h.si 0 x0 hx0).status with hh|hh|hh
  ·exact absurd hh (nr 0 x0 hx0)
  ·exact hh
  ·have hs:=h.si 0 x0 hx0
   cases hs0:Γ.st 0 with
   |old=>rw[hs0]at hk0;exact absurd rfl hk0
   |_ =>
    rw[hs0]at hs;obtain⟨-,hs|hs⟩:=hs
    ·have:=hs.running fun _ _ _ h=>aB (s:=_) h;rw[this]at hh;cases hh
    ·have:=hs.blocked;rw[this]at hh;cases hh
 obtain⟨rfl,rfl,nos⟩:=h.pr.pb.mblk x0 hx0 hb0
 obtain⟨R,dt,z,s0,-⟩:∃ R dt z,Γ.st 0=.main (.recv R dt)∧x0=parked (Conc.core x0) #[rcase X.ch z] (.recv true):=by
  rcases fA (h.si 0 x0 hx0) hb0 with⟨k,v,z,D,h1,-⟩|⟨R,dt,z,h1,h2,-⟩|⟨h1,-⟩
  ·rw[h1]at hk0;have:=hk0.1;have:=h.wt.k0p;omega
  ·exact⟨R,dt,z,h1,h2⟩
  ·rw[h1]at hk0;exact absurd hk0.symm hcl0
 have hstg:=h.pr.pa.stage;rw[s0]at hstg;have hsz:gs.size=k0+X.n+1:=hstg;have hclk:=h.pr.pa.clk
 have hclt:X.Y.cl<gs.size:=by omega
 have workers:∀ j s,j<gs.size→Γ.st j=.work s→False:=fun j s hj hs=>by
  have hx:gs[j]? = some gs[j]:=Array.getElem?_eq_getElem hj;have hsit:=h.si j _ hx;rw[hs]at hsit;obtain⟨-,hr|hb⟩:=hsit
  ·exact nr j _ hx (hr.running fun _ _ _ h=>aB (s:=.work s) h)
  ·have hbl:=hb.blocked
   cases s with
   |send k=>exact nos j _ k hx hs hbl
   |_=>exact hb
 have hxc:gs[X.Y.cl]? = some gs[X.Y.cl]:=Array.getElem?_eq_getElem hclt;have hsc:=h.si _ _ hxc;have hkc:=h.wt.kind _ hclt
 cases hstc:Γ.st X.Y.cl with
 |old =>
  have:=h.pr.pa.cld.2 ⟨hclt,hstc⟩;cases this
 |work s=>exact workers _ s hclt hstc
 |main s=>rw[hstc]at hkc;exact absurd hkc hcl0
 |clos s =>
  rw[hstc]at hsc;obtain⟨-,hr|hb⟩:=hsc
  ·exact nr _ _ hxc (hr.running fun _ _ _ h=>aB (s:=.clos s) h)
  ·have hbl:=hb.blocked
   have hs:s=.sem:=by
    cases s with
    |sem=>rfl
    |_=>exact hb.elim
   subst hs;have hsm:=h.pr.pb.cblk _ hxc hbl;subst hsm;have hm:=h.pr.pa.mode;rw[iW h hxc hstc]at hm
   have find:∀ φ:St→Nat,φ (.main (.recv R dt))=0→φ .old=0→(∀s,φ (.clos s)=0)→1≤(sumTo gs.size fun a=>φ (Γ.st a))→False:=fun φ f0 f1 f2 hpos=>by
    obtain⟨j,hj,hf⟩:=sum_pos hpos;have hkj:=h.wt.kind j hj
    cases hsj:Γ.st j with
    |old=>rw[hsj,f1]at hf;omega
    |work s=>exact workers j s hj hsj
    |clos s=>rw[hsj,f2]at hf;omega
    |main s =>
     rw[hsj]at hkj;simp only[Kind]at hkj;subst hkj;rw[s0,f0]at hf;omega
   generalize hV:(sumTo gs.size fun a=>cntW (Γ.st a))=V at hm;generalize hLa:(sumTo gs.size fun a=>lastW (Γ.st a))=La at hm;generalize hLs:(sumTo gs.size fun a=>lsemW (Γ.st a))=Ls at hm
   cases hm with
   |reg k1 _ _=>exact find cntW rfl rfl (fun _=>rfl) (by omega)
   |lst _ k1 _=>exact find lastW rfl rfl (fun _=>rfl) (by omega)
   |sem _ _ k1=>exact find lsemW rfl rfl (fun _=>rfl) (by omega)
structure AtFin(X:Cx)(R:List Nat)(dt own:Bl)(g:Goroutine)(w:World):Prop where
 fin:X.Fin R dt own g w
 ok:bC w dt
 all:∀ k,k<X.L→R.count k=1
 inR:∀ k∈R,k<X.L
 lt:∀ b,own b∨dt b→b<w.heap.size∧b≠X.Y.nx∧b≠X.Y.wg∧b≠X.ch
 apart:∀ b,own b→¬ dt b
 live:Live X w
theorem recv_closed(h3:Three X)(hn1:1≤X.n)(h:Inv X k0 Γ gs w t c sv sm [] true)(hi:gs[0]? = some g){R:List Nat}{dt:Bl}(s0:Γ.st 0=.main (.recv R dt))(hd:Deaf t 0=0)(hst:MRecv X R dt (Γ.own 0) g w)(hZ:∀ b,X.Y.Z b→Z' b)(hZn:Z' X.Y.nx)(hZw:Z' X.Y.wg)(hZc:Z' X.ch)
 (hfin:∀ g',AtFin X R dt (Γ.own 0) g' w→Wins X.P Q Z' g' w):∀ sl,∃m' ops,runT X.P (crowd gs w sl) 0=(.next m',ops)∧Ended X.P Q m' (t++ops):=by
 intro sl;obtain⟨hr,z,hgo,-,hf⟩:=hst;have hp0:0<gs.size:=(Array.getElem?_eq_some_iff.1 hi).1;have hcl0:=h.wt.split.cl0;have hl:=h.wt.live_lt.2.2;obtain⟨hcl1,hcl2⟩:=h.pr.pa.cld.1 rfl;have hck:=h.pr.pa.closed_after rfl;have hnw:=h.pr.pa.no_work hck;have hclk:=h.pr.pa.clk;obtain⟨buf,s,r,hch,hbuf⟩:=h.pr.ch
 have hb0':buf=#[]:=by
  have:=hbuf.size;simpa using this
 subst hb0'
 have hpart:partners (gs.setIfInBounds 0 ph) X.ch true=[]:=by
  apply List.eq_nil_iff_forall_not_mem.2
  rintro⟨j,k⟩ hp;obtain⟨-,-,x,kk,v,z,D,hx,hb,hs,-⟩:=senders h hp;exact hnw j (Array.getElem?_eq_some_iff.1 hx).1 _ hs
 have hrun:=crowd_recv_closed (sl:=sl) (i:=0) hi hgo hch hpart;rw[lJ,bG,Array.empty_append]at hrun;refine⟨_,_,hrun,?_⟩
 have hu:∀ op∈#[({g:=0,fn:=(Conc.core g).frame.fn,pos:=(Conc.core g).frame.place,act:=.recvClosed X.ch}:MemOp)],Hand X w.heap.size op:=fun op hop=>by
  simp at hop;subst hop;exact hand_closed hl
 obtain⟨q,pc,hq⟩:=h.pr.pt.cls rfl;have hti:=TI.mutes [({g:=0,fn:=(Conc.core g).frame.fn,pos:=(Conc.core g).frame.place,act:=.recvClosed X.ch}:MemOp)] h.wt.ti fun op hop=>(hu op (by simpa using hop)).touch;have hq':=hq.app (u:=#[({g:=0,fn:=(Conc.core g).frame.fn,pos:=(Conc.core g).frame.place,act:=.recvClosed X.ch}:MemOp)]) (fun j r _ _ _ hr=>iG hr hu) (dM h.wt.nrl fun op hop=>(hu op hop).rel) fun op hop _=>(hu op hop).touch
 have hy:(t++#[({g:=0,fn:=(Conc.core g).frame.fn,pos:=(Conc.core g).frame.place,act:=.recvClosed X.ch}:MemOp)])[t.size]? = some {g:=0,fn:=(Conc.core g).frame.fn,pos:=(Conc.core g).frame.place,act:=.recvClosed X.ch}:=by simp
 have hpast:=past_end (B:=w.heap.size) (Z':=Z') hti (.inl rfl) hq' (by rw[act?_of hy]) (by simp[Trace.g?]) ⟨0,by simp[Trace.g?],by rw[deaf_old (Nat.le_refl _)];exact hd⟩ (by rw[eX hu];exact hd) (fun op hop=>by
  rcases Array.mem_append.1 hop with hop|hop
  ·exact h.wt.low op hop
  ·exact(hu op hop).low) hZ hZn hZw hZc
 have hcnt:∀ k,k<X.L→R.count k=1:=fun k hk=>by
  have:=h.pr.pa.count k hk;rw[s0]at this
  have e5:sumTo gs.size (fun a=>inflW k (Γ.st a))=0:=by
   rw[Go.ConcN.sumTo_congr (g:=fun _=>0) fun a ha=>?_]
   ·exact mJ _
   ·cases hsa:Γ.st a with
    |work s=>exact absurd hsa (hnw a ha s)
    |_=>rfl
  have hLc:X.L≤c:=by
   refine h.pr.pa.pas k0 (Nat.le_refl _) (by omega) (by omega) ?_
   cases hsa:Γ.st k0 with
   |work s=>exact absurd hsa (hnw k0 (by omega) s)
   |_=>rfl
  rw[e5,if_pos (by omega)]at this
  change R.count k+0+0=1 at this
  omega
 have hF:AtFin X R dt (Γ.own 0) (Conc.served (Conc.core g) (recvd true z false)) w:=by
  refine⟨hf w (.refl _ _ _),fun b hb=>h.wt.data b (h.pr.mdt R dt s0 b hb),hcnt,fun k hk=>h.pr.pa.inR k (by rw[s0];exact hk),fun b hb=>?_,fun b hb hd=>h.wt.dataown 0 b hb (h.pr.mdt R dt s0 b hd),h.wt.live⟩;rcases hb with hb|hb
  ·have he:=h.wt.ownev _ _ hb;refine⟨h.wt.ownlt _ _ hb,?_,?_,?_⟩
   ·rintro rfl;exact h.wt.split.ownNx _ he
   ·rintro rfl;exact h.wt.split.ownWg _ he
   ·rintro rfl;exact h.wt.evch _ he
  ·have hb':=h.pr.mdt R dt s0 b hb;obtain⟨cc,e,fz,h1,-⟩:=h.wt.data b hb';exact⟨(Array.getElem?_eq_some_iff.1 h1).1,h.wt.datash b hb'⟩
 obtain⟨qf,hqf⟩:∃ qf:Nat→Nat,∀j x,0<j→gs[j]? = some x→QuitsD X.P (qf j) (Deaf t j) x:=by
  have:∀ j:Nat,∃q,∀x,0<j→gs[j]? = some x→QuitsD X.P q (Deaf t j) x:=fun j=>by
   by_cases hj:∃ x,0<j∧gs[j]? = some x
   ·obtain⟨x,hj0,hx⟩:=hj;have hsj:=h.si j x hx;have hjl:=(Array.getElem?_eq_some_iff.1 hx).1;have hkj:=h.wt.kind j hjl
    have hold:Γ.st j=.old:=by
     cases hsa:Γ.st j with
     |old=>rfl
     |work s=>exact absurd hsa (hnw j hjl s)
     |clos s =>
      rw[hsa]at hkj;simp only[Kind]at hkj;subst hkj;rw[hcl2]at hsa;cases hsa
     |main s=>rw[hsa]at hkj;simp only[Kind]at hkj;omega
    rw[hold]at hsj;obtain⟨-,q,-,hq⟩:=hsj;exact⟨q,fun y _ hy=>by rw[hx]at hy;cases hy;exact hq⟩
   ·exact⟨0,fun x h1 h2=>absurd ⟨x,h1,h2⟩ hj⟩
  obtain⟨qf,hqf⟩:=Classical.axiomOfChoice this;exact⟨qf,hqf⟩
 have:=hfin _ hF (gs.setIfInBounds 0 (Conc.served (Conc.core g) (recvd true z false))) sl (t++#[({g:=0,fn:=(Conc.core g).frame.fn,pos:=(Conc.core g).frame.place,act:=.recvClosed X.ch}:MemOp)]) qf w.tape w.drawn (by simp[hp0]) ⟨fun j x hj hx=>?_,fun j hj=>?_⟩ hpast
 ·rwa[bQ]at this
 ·rcases aG hx with⟨rfl,-⟩|⟨-,hx⟩
  ·omega
  ·rw[eX hu];exact hqf j x hj hx
 ·rw[eX hu];exact h.wt.above j (by simpa using hj)
def lI(X:Cx)(Q:Value→World→Prop)(Z':Nat→Prop):Prop:=∀ R dt own g w,AtFin X R dt own g w→Wins X.P Q Z' g w
theorem at_stop(W:Walks X)(h3:Three X)(hn1:1≤X.n)(hZ:∀ b,X.Y.Z b→Z' b)(hZn:Z' X.Y.nx)(hZw:Z' X.Y.wg)(hZc:Z' X.ch)(hF:lI X Q Z')(h:Inv X k0 Γ gs w t c sv sm B closed)(hi:gs[i]? = some g)(hs:Γ.st i≠.old)(hd:Deaf t i=jw (Γ.st i))(hst:∀ w₁,RR X (Γ.own i) w w₁→stop X (Γ.st i) (Γ.own i) g w₁) :
 Good1 X k0 Γ gs w t c i∨(i=0∧∀ sl,∃m' ops,runT X.P (crowd gs w sl) 0=(.next m',ops)∧Ended X.P Q m' (t++ops)):=by
 have hlt:i<gs.size:=(Array.getElem?_eq_some_iff.1 hi).1;have hk:=h.wt.kind i hlt;have hst0:=hst w (.refl _ _ _)
 cases hsi:Γ.st i with
 |old=>exact absurd hsi hs
 |work s =>
  left;rw[hsi]at hk hd hst0
  have hne:i≠0:=by have:=hk.1;have:=h.wt.k0p;omega
  have hi0:(i==0)=false:=by simpa using hne
  cases s with
  |add=>exact move_add h3 h hi hsi hd hst0 hi0
  |rel=>exact move_rel h3 h hi hsi hd hst0 hi0
  |dis=>exact move_dis h3 h hi hsi hd hst0 hi0
  |dec=>exact move_dec h3 h hi hsi hd hst0 hi0
  |load=>exact move_load h3 h hi hsi hd hst0 hi0
  |store=>exact move_store h3 h hi hsi hd hst0 hi0
  |sem=>exact move_sem h3 h hi hsi hd hst0 hi0
  |send k =>
   obtain⟨hr,v,z,D,hp,ho,hok,hgo,haf⟩:=hst0;have H:Hands X Γ i k w v D:=⟨hp,ho,hok⟩;obtain⟨x0,hx0⟩:=main_at h;by_cases hb:x0.status=.blocked
   ·exact send_meets W h3 hn1 h hi hsi hd H (by rw[hi0];exact hgo) haf hi0 hx0 hb
   ·have hm:∀ x,gs[0]? = some x→x.status≠.blocked:=fun x hx=>by
     rw[hx0]at hx;cases hx;exact hb
    by_cases hB:B.length<X.n
    ·exact send_room W h3 h hi hsi hd H (by rw[hi0];exact hgo) haf hi0 hm hB
    ·exact send_waits h3 h hi hr hsi hd H (by rw[hi0];exact hgo) haf hi0 hm hB
 |clos s =>
  left;rw[hsi]at hk hd hst0 hst;simp only[Kind]at hk;subst hk
  cases s with
  |dis=>exact clos_dis h3 h hi hsi hd hst0
  |load=>exact clos_load h3 h hi hsi hd hst0
  |cas v=>exact clos_cas W h3 h hi hsi hd hst0
  |wr=>exact clos_wr h3 h hi hsi hd hst0
  |sem=>exact clos_sem h3 h hi hsi hd hst
  |load2=>exact clos_load2 h3 h hi hsi hd hst0
  |enab=>exact clos_enab h3 h hi hsi hd hst0
  |acq=>exact clos_acq h3 h hi hsi hd hst0
  |close=>exact clos_close h3 h hi hsi hd hst0
 |main s =>
  rw[hsi]at hk hd hst0 hst;simp only[Kind]at hk;subst hk
  cases s with
  |dis j=>exact .inl (main_dis h3 h hi hsi hd hst0)
  |add j=>exact .inl (main_add h3 h hi hsi hd hst0)
  |rd j=>exact .inl (main_rd h3 h hi hsi hd hst0)
  |enab j=>exact .inl (main_enab h3 h hi hsi hd hst0)
  |go j=>exact .inl (main_go W h hi hsi hd hst0)
  |goc=>exact .inl (main_goc W h hi hsi hd hst0)
  |recv R dt =>
   cases B with
   |cons k B =>
    left;by_cases hp:partners (gs.setIfInBounds 0 ph) X.ch true=[]
    ·exact recv_buf W h3 h hi hsi hd hst0 hp
    ·exact recv_both W h3 h hi hsi hd hst0 hp
   |nil =>
    cases closed with
    |false =>
     obtain⟨-,z,hgo,-⟩:=id hst0;exact .inl (recv_waits h3 hn1 h hi hsi hd hst hgo)
    |true=>exact .inr ⟨rfl,recv_closed h3 hn1 h hi hsi hd hst0 hZ hZn hZw hZc fun g' hg=>hF R dt _ g' w hg⟩
theorem look_runs(W:Walks X)(h3:Three X)(hn1:1≤X.n)(hZ:∀ b,X.Y.Z b→Z' b)(hZn:Z' X.Y.nx)(hZw:Z' X.Y.wg)(hZc:Z' X.ch)(hF:lI X Q Z')(μ:Mu):∀ Γ gs w t c sv sm B closed,mu X Γ gs c=μ→Inv X k0 Γ gs w t c sv sm B closed→∀ sl,Ended X.P Q (crowd gs w sl) t:=by
 induction μ using Lt.wf.induction with
 |_ μ ih =>
  intro Γ gs w t c sv sm B closed hμ h sl
  have haw:∀ g∈gs,awake g:=fun g hg=>by
   obtain⟨i,hi,rfl⟩:=Array.mem_iff_getElem.1 hg;exact(h.si i _ (Array.getElem?_eq_getElem hi)).awake
  obtain⟨i,g,d,sl',hi,hg,hst⟩:=crowd_pick (P:=X.P) (w:=w) (sl:=sl) haw (someone h);have h':=h.at d
  have fin:Good1 X k0 Γ gs (w.at d) t c i→Ended X.P Q (crowd gs w sl) t:=fun hgood=>by
   obtain⟨ops,Γ',gs',w',c',sv',sm',B',closed',hrun,hinv,hlt⟩:=hgood sl';exact .next (hst.trans hrun) (ih _ (by rw[←hμ];exact hlt) Γ' gs' w' (t++ops) c' sv' sm' B' closed' rfl hinv sl')
  by_cases hs:Γ.st i=.old
  ·exact fin (move_old h' hi hs hg)
  ·have hsit:=h'.si i g hi
   have key:Deaf t i=jw (Γ.st i)∧(Run X (i==0) (dOf (Γ.st i)) (stop X (Γ.st i)) (Γ.rk i) (Γ.own i) g (w.at d)∨Blk X (Γ.st i) (Γ.own i) g (w.at d)):=by
    cases hsi:Γ.st i with
    |old=>exact absurd hsi hs
    |_=>rw[hsi]at hsit;exact hsit
   obtain⟨hd,hr|hb⟩:=key
   ·have stopped:(∀w₁,RR X (Γ.own i) (w.at d) w₁→stop X (Γ.st i) (Γ.own i) g w₁)→Ended X.P Q (crowd gs w sl) t:=fun hstop=>by
     rcases at_stop W h3 hn1 hZ hZn hZw hZc hF h' hi hs hd hstop with hgood|⟨rfl,hend⟩
     ·exact fin hgood
     ·obtain⟨m',ops,hrun,he⟩:=hend sl';exact .next (hst.trans hrun) he
    cases hrk:Γ.rk i with
    |leaf=>rw[hrk]at hr;exact stopped hr
    |node tt =>
     rw[hrk]at hr;rcases hr with hr|⟨-,hr⟩
     ·exact stopped hr
     ·obtain⟨own',g',w',es,k1,k2,k3,k4⟩:=hr (w.at d) (.refl _ _ _) h'.wt.live;exact fin (move_local h' hi hs k1 k2 k3 k4 ⟨tt,w.at d,hrk,rfl⟩ hd)
   ·have:=hb.blocked;rw[this]at hg;cases hg
end
end Ph
namespace Ph
open Conc Co Cl
open Go.ConcN (sumTo upd sumTo_upd upd_ne upd_same RelBy)
section
variable {X:Cx}{gs:Array Goroutine}{w:World}{t:Trace}{g:Goroutine}{q:Nat→Nat}{Q:Value→World→Prop}{Z':Nat→Prop}
def st0(i:Nat):St:=if i=0 then .main (.dis 0) else .old
theorem mW{i:Nat}(h:i≠0):st0 i=.old:=if_neg h
theorem sum_st0{φ:St→Nat}(h1:φ (.main (.dis 0))=0)(h2:φ .old=0)(n:Nat):sumTo n (fun i=>φ (st0 i))=0:=by
 rw[Go.ConcN.sumTo_congr (g:=fun _=>0) fun a ha=>?_]
 ·exact mJ _
 ·by_cases ha0:a=0
  ·subst ha0;exact h1
  ·rw[mW ha0];exact h2
structure Lies(X:Cx)(own:Bl)(B:Nat)(w:World):Prop where
 nx:NxAt X w 0
 wg:WgAt X w 0 0
 ch:∃ s r,ChAt X w #[] false s r
 nxB:B≤X.Y.nx
 wgB:B≤X.Y.wg
 ownlt:∀ b,own b→b<w.heap.size
 ownNx:¬ own X.Y.nx
 ownWg:¬ own X.Y.wg
 ownCh:¬ own X.ch
 ownRo:∀ b,own b→¬ X.Y.ro b
 ownZ:∀ b,own b→¬ X.Y.Z b
 rolt:∀ b,X.Y.ro b→b<w.heap.size
 roNx:¬ X.Y.ro X.Y.nx
 roWg:¬ X.Y.ro X.Y.wg
 roCh:¬ X.Y.ro X.ch
 roZ:∀ b,X.Y.ro b→¬ X.Y.Z b
 zlt:∀ b,X.Y.Z b→b<w.heap.size
 Bs:B≤w.heap.size
 still:w.os=X.W.os∧w.output=X.W.output
theorem look_starts(W:Walks X)(h3:Three X)(hn1:1≤X.n)(hZ:∀ b,X.Y.Z b→Z' b)(hZn:Z' X.Y.nx)(hZw:Z' X.Y.wg)(hZc:Z' X.ch)(hF:lI X Q Z'){own:Bl}{B:Nat}(hl:Lies X own B w)(h0:gs[0]? = some g)(hL:Leavers X.P t gs q)(hP:Past (ShZ X.Y.Z) B t)(hn0:X.Y.n0=t.size)(hcl:X.Y.cl=gs.size+X.n)
 (hA:X.SpA 0 own g w) (sl:Option (Nat×Nat)):Ended X.P Q (crowd gs w sl) t:=by
 have hp0:0<gs.size:=(Array.getElem?_eq_some_iff.1 h0).1;obtain⟨ρ,hρ⟩:=W.sp 0 own g w (by omega) hA;obtain⟨s,r,hch⟩:=hl.ch;obtain⟨Γ,hΓ⟩:∃ Γ:Gh,Γ={st:=st0,rk:=fun i=>if i=0 then ρ else natRk (q i),own:=fun i=>if i=0 then own else noB,ev:=fun i=>if i=0 then own else noB,data:=noB}:=⟨_,rfl⟩
 have hown:∀ i b,Γ.own i b→i=0∧own b:=fun i b hb=>by
  rw[hΓ]at hb;by_cases hi:i=0
  ·subst hi;exact⟨rfl,hb⟩
  ·simp only[if_neg hi]at hb;exact hb.elim
 have hev:∀ i b,Γ.ev i b→i=0∧own b:=fun i b hb=>by
  rw[hΓ]at hb;by_cases hi:i=0
  ·subst hi;exact⟨rfl,hb⟩
  ·simp only[if_neg hi]at hb;exact hb.elim
 have hst:Γ.st=st0:=by rw[hΓ]
 refine look_runs W h3 hn1 hZ hZn hZw hZc hF _ Γ gs w t 0 0 0 [] false rfl (k0:=gs.size) ⟨⟨by omega,Nat.le_refl _,by omega,by omega,hL.above,⟨⟨_,hl.nx⟩,⟨_,_,hl.wg⟩,⟨_,_,_,_,hch⟩,hl.still⟩,fun i b hb=>hl.ownlt b (hown i b hb).2,fun i b hb=>?_,fun i b hb=>hl.ownlt b (hev i b hb).2,fun i hb=>hl.ownCh (hev i _ hb).2,?_,?_,fun i b _ hd=>?_,fun b hd=>?_,hl.rolt,hl.roCh,hl.zlt,?_,fun op hop=>MemAct.low_mono hl.Bs (hP.seen op hop),norel_past hP.seen hl.wgB,fun i hi=>?_⟩,fun i x hx=>?_,⟨⟨hcl,.inl (Nat.zero_le _),?_,Nat.zero_le _,fun k hk=>?_,?_,fun j k hj e=>?_,?_,?_,fun vs hv=>by omega,fun i h1 h2 h3=>by omega⟩,hl.nx,hl.wg,⟨#[],s,r,hch,rfl,fun j v k h1=>by simp at h1,fun k hk=>by cases hk⟩,⟨fun j x k hx e=>?_,fun x hx hb=>?_,fun x hx=>?_⟩,⟨fun i h1 h2 h3=>by omega,fun h1=>by omega,fun e=>by cases e⟩,fun R dt e=>?_⟩⟩ sl
 ·rw[hΓ]at hb⊢;exact hb
 ·refine⟨fun a b x h1 h2=>(hev a x h1).1.trans (hev b x h2).1.symm,fun a b h1=>hl.ownRo b (hev a b h1).2,fun a h1=>hl.ownNx (hev a _ h1).2,fun a h1=>hl.ownWg (hev a _ h1).2,fun a h1=>hl.ownCh (hev a _ h1).2,hl.roNx,hl.roWg,fun a b h1=>hl.ownZ b (hev a b h1).2,hl.roZ,by omega⟩
 ·rw[hΓ];exact fun b hb=>hb.elim
 ·rw[hΓ]at hd;exact hd.elim
 ·rw[hΓ]at hd;exact hd.elim
 ·have e:lvOf gs.size gs.size=fun g=>g=0:=by
   funext g
   apply propext
   unfold lvOf;omega
  rw[e];exact TI.start hP hn0 hl.nxB hl.wgB
 ·rw[hst];by_cases hi0:i=0
  ·subst hi0;exact rfl
  ·rw[mW hi0];exact hi0
 ·rw[hΓ];by_cases hi0:i=0
  ·subst hi0;rw[h0]at hx;cases hx;exact⟨hP.hears,.inl hρ⟩
  ·simp only[if_neg hi0,mW hi0];exact⟨by simpa using hi0,q i,rfl,hL.old i x (by omega) hx⟩
 ·rw[hst,sum_st0 rfl rfl,sum_st0 rfl rfl,sum_st0 rfl rfl]
  have e:ckOf X.Y.cl gs.size st0=.before:=by
   unfold ckOf;rw[if_pos (by omega)]
  rw[e];have:=Mode.opn (v:=0) (last:=0) (lsem:=0) rfl rfl;simpa using this
 ·rw[hst,sum_st0 rfl rfl];rfl
 ·rw[hst]
  exact fun k hk=>by cases hk
 ·rw[hst]at e;by_cases hj0:j=0
  ·subst hj0;cases e
  ·rw[mW hj0]at e;cases e
 ·rw[hst];exact⟨by omega,by omega⟩
 ·exact⟨fun e=>(by cases e),fun e=>(by omega)⟩
 ·rw[hst]at e;by_cases hj0:j=0
  ·subst hj0;cases e
  ·rw[mW hj0]at e;cases e
 ·rw[h0]at hx;cases hx;have:=hρ.running fun _ _ _ h=>h.1;rw[this]at hb;cases hb
 ·have:=(Array.getElem?_eq_some_iff.1 hx).1;omega
 ·rw[hst]at e;cases e
end
end Ph
namespace Co
open Conc
variable {P:Program}{E:Env}
def flatB:Nat→Value→Bool
 |0,_=>false
 |_+1,.bool _|_+1,.int _ _|_+1,.string _|_+1,.pointer none|_+1,.slice none _ _|_+1,.map none|_+1,.chan none|_+1,.nilFunc|_+1,.nilIface=>true
 |n+1,.iface _ v=>flatB n v
 |n+1,.agg x=>x.all (flatB n)
 |n+1,.tuple x=>x.all (flatB n)
 |_,_=>false
theorem flat_of:∀ (n:Nat) (v:Value),flatB n v=true→Flat v:=by
 intro n
 induction n with
 |zero=>intro v h;cases h
 |succ n ih =>
  intro v h ok f
  have hall:∀ x:Array Value,x.all (flatB n)=true→∀ (i:Nat) u u',x[i]? = some u→x[i]? = some u'→VR ok f u u':=by
   intro x hx i u u' h1 h2;rw[h1]at h2;cases h2;obtain⟨hi,rfl⟩:=Array.getElem?_eq_some_iff.1 h1;exact ih _ (Array.all_eq_true.1 hx i hi) ok f
  cases v with
  |bool b=>exact .bool b
  |int k m=>exact .int k m
  |string s=>exact .string s
  |pointer a=>cases a with
   |none=>exact .ptrN
   |some a=>cases h
  |slice a l c=>cases a with
   |none=>exact .sliceN l c
   |some a=>cases h
  |map r=>cases r with
   |none=>exact .mapN
   |some a=>cases h
  |chan r=>cases r with
   |none=>exact .chanN
   |some a=>cases h
  |nilFunc=>exact .nilFunc
  |nilIface=>exact .nilIface
  |iface t v=>exact .iface (ih v h ok f)
  |agg x=>exact .agg rfl (hall x h)
  |tuple x=>exact .tuple rfl (hall x h)
  |_=>cases h
def okXB(ok:FuncId→Bool):Operand→Bool
 |.tmp _=>true
 |.const v=>flatB 20 v
 |.global _=>false
 |.func i=>ok i
theorem aS{x:Operand}(h:okXB E.ok x=true):OkX E x:=by
 cases x with
 |tmp t=>trivial
 |const v=>exact flat_of _ _ h
 |global g=>cases h
 |func i=>exact h
def zB(P:Program)(t:TypeId):Bool :=
 match P.info? t with
 |none=>true
 |some i=>match i.zero with
  |none=>true
  |some v=>flatB 20 v&&v.cells.all (flatB 20)
theorem jS{t:TypeId}(h:zB P t=true):ZFlat P t∧jy P t:=by
 unfold zB at h
 constructor<;>intro i v hi hz
 ·rw[hi]at h;simp only[hz,Bool.and_eq_true]at h;exact flat_of _ _ h.1
 ·rw[hi]at h;simp only[hz,Bool.and_eq_true]at h;intro u hu;obtain⟨j,hj,rfl⟩:=Array.mem_iff_getElem.1 hu;exact flat_of _ _ (Array.all_eq_true.1 h.2 j hj)
def elB(P:Program)(t:TypeId):Option TypeId :=
 match P.underlying t with
 |some (.slice e)=>some e
 |_=>none
theorem el_of{t e:TypeId}(h:elB P t=some e):P.underlying t=some (.slice e):=by
 unfold elB at h;split at h
 ·cases h;assumption
 ·cases h
def intB(P:Program)(t:TypeId):Bool:=match P.underlying t with|some (.int _)=>true|_=>false
theorem int_of{t:TypeId}(h:intB P t=true):∃ k,P.underlying t=some (.int k):=by
 unfold intB at h;split at h
 ·exact⟨_,by assumption⟩
 ·cases h
def plainB(P:Program)(t:TypeId):Bool:=match P.underlying t with|some (.int _)|some .bool|some .string|some (.slice _)=>true|_=>false
theorem plain_of{t:TypeId}(h:plainB P t=true):∃ d,P.underlying t=some d∧Plain d:=by
 unfold plainB at h;split at h
 ·exact⟨_,by assumption,.int _⟩
 ·exact⟨_,by assumption,.bool⟩
 ·exact⟨_,by assumption,.string⟩
 ·exact⟨_,by assumption,.slice _⟩
 ·cases h
def mG(P:Program)(t:TypeId):Bool:=match P.info? t with|none=>true|some i=>match i.desc with|.named n _=>n != "sync.copyChecker"|_=>true
theorem nY{t:TypeId}(h:mG P t=true):NoCopy P t:=by
 intro i hi u e;unfold mG at h;rw[hi]at h;simp[e]at h
def okFB(P:Program)(ok ext:FuncId→Bool)(i:FuncId):Bool:=(ok i&&match P.funcs[i]? with|none=>false|some fn=>!(fn.name== "runtime.NumGoroutine")&&fn.body.isSome) || ext i
theorem okF_of{ext:FuncId→Bool}(hx:∀ i,ext i=true→ExtOk P E i){i:FuncId}(h:okFB P E.ok ext i=true):OkF P E i:=by
 unfold okFB at h;rw[Bool.or_eq_true]at h;rcases h with h|h
 case inr=>exact .inr (hx i h)
 simp only[Bool.and_eq_true]at h;refine .inl ⟨h.1,?_⟩;have h2:=h.2;split at h2
 ·cases h2
 ·simp only[Bool.and_eq_true,Bool.not_eq_true']at h2
  exact⟨_,by assumption,h2.1,by rw[Option.isNone_eq_false_iff];exact h2.2⟩
def okMB(ok:FuncId→Bool):Option Operand→Bool
 |none=>true
 |some x=>okXB ok x
theorem okM_of{x:Option Operand}(h:okMB E.ok x=true):OkM E x:=by
 cases x with
 |none=>trivial
 |some x=>exact aS h
def okCallB(P:Program)(ok ext:FuncId→Bool)(c:Call):Bool :=
 match c.callee with
 |.value (.func i)=>okFB P ok ext i&&c.args.all (okXB ok)
 |.builtin .len=>match c.args,c.argTypes with
  |⟨[x]⟩,⟨[t]⟩=>(elB P t).isSome&&okXB ok x
  |_,_=>false
 |.builtin .append=>match c.args,c.argTypes with
  |⟨[x,y]⟩,⟨[t,t2]⟩=>(match elB P t with|some e=>zB P e|none=>false)&&(elB P t2).isSome&&okXB ok x&&okXB ok y
  |_,_=>false
 |.builtin .copy=>match c.args,c.argTypes with
  |⟨[x,y]⟩,⟨[t,t2]⟩=>(elB P t).isSome&&okXB ok x&&okXB ok y
  |_,_=>false
 |_=>false
theorem all_of{l:Array Operand}(h:l.all (okXB E.ok)=true):∀ x∈l,OkX E x:=by
 intro x hx;obtain⟨j,hj,rfl⟩:=Array.mem_iff_getElem.1 hx;exact aS (Array.all_eq_true.1 h j hj)
theorem jY{t:TypeId}(h:(elB P t).isSome=true):∃ e,P.underlying t=some (.slice e):=by
 obtain⟨e,he⟩:=Option.isSome_iff_exists.1 h;exact⟨e,el_of he⟩
theorem okCall_of{ext:FuncId→Bool}(hx:∀ i,ext i=true→ExtOk P E i){c:Call}(h:okCallB P E.ok ext c=true):lG P E c:=by
 unfold okCallB at h;unfold lG;split at h
 ·rename_i e;simp only[Bool.and_eq_true]at h;simp only[e];exact⟨okF_of hx h.1,all_of h.2⟩
 ·rename_i e;simp only[e];split at h
  ·rename_i h1 h2;simp only[Bool.and_eq_true]at h;obtain⟨e,he⟩:=jY h.1;exact⟨_,_,e,h1,h2,he,aS h.2⟩
  ·cases h
 ·rename_i e;simp only[e];split at h
  ·rename_i h1 h2;simp only[Bool.and_eq_true]at h;obtain⟨⟨⟨a,b⟩,c1⟩,d⟩:=h;split at a
   ·rename_i el hel;exact⟨_,_,_,_,el,h1,h2,el_of hel,jY b,(jS a).2,aS c1,aS d⟩
   ·cases a
  ·cases h
 ·rename_i e;simp only[e];split at h
  ·rename_i h1 h2;simp only[Bool.and_eq_true]at h;obtain⟨e,he⟩:=jY h.1.1;exact⟨_,_,_,_,e,h1,h2,he,aS h.1.2,aS h.2⟩
  ·cases h
 ·cases h
def partsB(ok:FuncId→Bool)(l:Array (Nat×Operand)):Bool:=l.all fun x=>okXB ok x.2
theorem parts_of{l:Array (Nat×Operand)}(h:partsB E.ok l=true):∀ x∈l,OkX E x.2:=by
 intro x hx;obtain⟨j,hj,rfl⟩:=Array.mem_iff_getElem.1 hx;exact aS (Array.all_eq_true.1 h j hj)
def zelB(P:Program)(t:TypeId):Bool:=match elB P t with|some e=>zB P e|none=>false
theorem zel_of{t:TypeId}(h:zelB P t=true):∃ e,P.underlying t=some (.slice e)∧jy P e:=by
 unfold zelB at h;split at h
 ·rename_i e he;exact⟨e,el_of he,(jS h).2⟩
 ·cases h
def nilB:Operand→Bool
 |.const .nilIface=>true
 |_=>false
theorem nil_of{y:Operand}(h:nilB y=true):y=.const .nilIface:=by
 unfold nilB at h;split at h
 ·rfl
 ·cases h
def ifaceB(P:Program)(t:TypeId):Bool:=match P.underlying t with|some (.interface _)=>true|_=>false
theorem iface_of{t:TypeId}(h:ifaceB P t=true):∃ ms,P.underlying t=some (.interface ms):=by
 unfold ifaceB at h;split at h
 ·exact⟨_,by assumption⟩
 ·cases h
def convB(P:Program)(s d:TypeId):Bool:=(intB P s&&intB P d) || ((match elB P s with|some e=>(match P.underlying e with|some (.int .u8)=>true|_=>false)|none=>false)&&(match P.underlying d with|some .string=>true|_=>false))
theorem conv_of{s d:TypeId}(h:convB P s d=true):ConvI P s d∨ConvB P s d:=by
 unfold convB at h;rw[Bool.or_eq_true,Bool.and_eq_true,Bool.and_eq_true]at h;rcases h with⟨a,b⟩|⟨a,b⟩
 ·exact .inl ⟨int_of a,int_of b⟩
 ·right;split at a
  ·rename_i e he;split at a
   ·rename_i h2;split at b
    ·exact⟨⟨e,el_of he,h2⟩,by assumption⟩
    ·cases b
   ·cases a
  ·cases a
def fieldB(P:Program)(t:TypeId)(i:Nat):Bool :=
 match P.underlying t with
 |some (.struct fs)=>match fs[i]? with
  |some fd=>match P.info? fd.type with
   |some inf=>inf.size != 0
   |none=>true
  |none=>false
 |_=>false
theorem field_of{t:TypeId}{i:Nat}(h:fieldB P t i=true):FieldOk P t i:=by
 unfold fieldB at h;split at h
 ·rename_i fs hfs;split at h
  ·rename_i fd hfd;refine⟨fs,fd,hfs,hfd,fun inf hi=>?_⟩;rw[hi]at h;simpa using h
  ·cases h
 ·cases h
def arrB(P:Program)(t:TypeId):Bool:=match P.underlying t with|some (.array _ _)=>true|_=>false
theorem arr_of{t:TypeId}(h:arrB P t=true):∃ n e,P.underlying t=some (.array n e):=by
 unfold arrB at h;split at h
 ·exact⟨_,_,by assumption⟩
 ·cases h
def strB(P:Program)(t:TypeId):Bool:=match P.underlying t with|some .string=>true|_=>false
theorem str_of{t:TypeId}(h:strB P t=true):P.underlying t=some .string:=by
 unfold strB at h;split at h
 ·assumption
 ·cases h
def plainSB(P:Program)(t:TypeId):Bool:=(match P.underlying t with|some (.struct fs)=>fs.all fun fd=>plainB P fd.type&&mG P fd.type|_=>false)&&!P.eqGuardType P.depth t
theorem plainS_of{t:TypeId}(h:plainSB P t=true):∃ fs,PlainS P t fs:=by
 unfold plainSB at h;rw[Bool.and_eq_true]at h;obtain⟨h1,h2⟩:=h;split at h1
 ·rename_i fs hfs;refine⟨fs,hfs,fun fd hfd=>?_,by simpa using h2⟩;obtain⟨j,hj,rfl⟩:=Array.mem_iff_getElem.1 hfd;have:=Array.all_eq_true.1 h1 j hj;rw[Bool.and_eq_true]at this;obtain⟨d,q1,q2⟩:=plain_of this.1;exact⟨d,q1,q2,nY this.2⟩
 ·cases h1
def eqOpB:BinOp→Bool|.eql|.neq=>true|_=>false
theorem eqOp_of{op:BinOp}(h:eqOpB op=true):op=.eql∨op=.neq:=by cases op<;>first|exact .inl rfl|exact .inr rfl|cases h
def mapB(P:Program)(t:TypeId):Bool:=match P.underlying t with|some (.map kt e)=>intB P kt&&mG P kt&&zB P e|_=>false
theorem map_of{t:TypeId}(h:mapB P t=true):∃ kt e k,P.underlying t=some (.map kt e)∧P.underlying kt=some (.int k)∧NoCopy P kt∧ZFlat P e:=by
 unfold mapB at h;split at h
 ·rename_i kt e he;simp only[Bool.and_eq_true]at h;obtain⟨k,hk⟩:=int_of h.1.1;exact⟨kt,e,k,he,hk,nY h.1.2,(jS h.2).1⟩
 ·cases h
def okOpB(P:Program)(ok ext:FuncId→Bool):Op→Bool
 |.load t x=>okXB ok x || (match x with|.global g=>decide (g<P.globals.size)&&plainB P t|_=>false)
 |.index t x i=>(arrB P t || strB P t)&&okXB ok x&&okXB ok i
 |.range t x=>strB P t&&okXB ok x
 |.next x b=>b&&okXB ok x
 |.makeMap _ r=>r.isNone
 |.lookup t x i _=>mapB P t&&okXB ok x&&okXB ok i
 |.mapUpdate t x i v=>mapB P t&&okXB ok x&&okXB ok i&&okXB ok v
 |.move x|.assign x|.box _ x|.unOp _ _ x|.makeInterface _ x|.extract x _=>okXB ok x
 |.pick c a b=>okXB ok c&&okXB ok a&&okXB ok b
 |.alloc t=>zB P t
 |.build t parts=>zB P t&&partsB ok parts
 |.buildSlice t _ parts=>zelB P t&&partsB ok parts
 |.store _ a x=>okXB ok a&&okXB ok x
 |.binOp op t x y _=>okXB ok x&&okXB ok y&&((plainB P t&&mG P t) || (ifaceB P t&&nilB y) || (eqOpB op&&plainSB P t))
 |.convert s d x=>okXB ok x&&convB P s d
 |.makeSlice t l c=>zelB P t&&okXB ok l&&okXB ok c
 |.slice t x lo hi mx=>(elB P t).isSome&&okXB ok x&&okMB ok lo&&okMB ok hi&&mx.isNone
 |.fieldAddr s x i=>fieldB P s i&&okXB ok x
 |.indexAddr t x i=>((elB P t).isSome || arrB P t)&&okXB ok x&&okXB ok i
 |.call c=>okCallB P ok ext c
 |_=>false
theorem fK(hE:E.G=P.globals.size){ext:FuncId→Bool}(hx:∀ i,ext i=true→ExtOk P E i){o:Op}(h:okOpB P E.ok ext o=true):OkOp P E o:=by
 cases o with
 |load t x =>
  simp only[okOpB,Bool.or_eq_true]at h;rcases h with h|h
  ·exact .inl (aS h)
  ·split at h
   ·rename_i g;simp only[Bool.and_eq_true,decide_eq_true_eq]at h;obtain⟨d,q1,q2⟩:=plain_of h.2;exact .inr ⟨g,d,rfl,by omega,q1,q2⟩
   ·cases h
 |index t x i =>
  simp only[okOpB,Bool.and_eq_true,Bool.or_eq_true]at h;exact⟨h.1.1.imp arr_of str_of,aS h.1.2,aS h.2⟩
 |range t x =>
  simp only[okOpB,Bool.and_eq_true]at h;exact⟨str_of h.1,aS h.2⟩
 |next x b =>
  simp only[okOpB,Bool.and_eq_true]at h;exact⟨h.1,aS h.2⟩
 |makeMap t r=>exact Option.isNone_iff_eq_none.1 h
 |lookup t x i b =>
  simp only[okOpB,Bool.and_eq_true]at h;exact⟨map_of h.1.1,aS h.1.2,aS h.2⟩
 |mapUpdate t x i v =>
  simp only[okOpB,Bool.and_eq_true]at h;obtain⟨kt,e,k,q1,q2,q3,-⟩:=map_of h.1.1.1;exact⟨⟨kt,e,k,q1,q2,q3⟩,aS h.1.1.2,aS h.1.2,aS h.2⟩
 |move x|assign x|box _ x|unOp _ _ x|makeInterface _ x|extract x _=>exact aS h
 |pick c a b =>
  simp only[okOpB,Bool.and_eq_true]at h;exact⟨aS h.1.1,aS h.1.2,aS h.2⟩
 |alloc t=>exact(jS h).1
 |build t parts =>
  simp only[okOpB,Bool.and_eq_true]at h;exact⟨(jS h.1).1,parts_of h.2⟩
 |buildSlice t n parts =>
  simp only[okOpB,Bool.and_eq_true]at h;exact⟨zel_of h.1,parts_of h.2⟩
 |store t a x =>
  simp only[okOpB,Bool.and_eq_true]at h;exact⟨aS h.1,aS h.2⟩
 |binOp b t x y t2 =>
  simp only[okOpB,Bool.and_eq_true,Bool.or_eq_true]at h;refine⟨aS h.1.1,aS h.1.2,?_⟩;rcases h.2 with(⟨h1,h2⟩|⟨h1,h2⟩)|⟨h1,h2⟩
  ·obtain⟨d,hd,hp⟩:=plain_of h1;exact .inl ⟨d,hd,hp,nY h2⟩
  ·exact .inr (.inl ⟨iface_of h1,nil_of h2⟩)
  ·exact .inr (.inr ⟨eqOp_of h1,plainS_of h2⟩)
 |convert s d x =>
  simp only[okOpB,Bool.and_eq_true]at h;exact⟨aS h.1,conv_of h.2⟩
 |makeSlice t l c =>
  simp only[okOpB,Bool.and_eq_true]at h;exact⟨zel_of h.1.1,aS h.1.2,aS h.2⟩
 |slice t x lo hi mx =>
  simp only[okOpB,Bool.and_eq_true]at h;exact⟨jY h.1.1.1.1,aS h.1.1.1.2,okM_of h.1.1.2,okM_of h.1.2,Option.isNone_iff_eq_none.1 h.2⟩
 |fieldAddr t x i =>
  simp only[okOpB,Bool.and_eq_true]at h;exact⟨field_of h.1,aS h.2⟩
 |indexAddr t x i =>
  simp only[okOpB,Bool.and_eq_true]at h;rw[Bool.or_eq_true]at h;exact⟨h.1.1.imp jY arr_of,aS h.1.2,aS h.2⟩
 |call c=>exact okCall_of hx h
 |_=>cases h
def dI(P:Program)(ok ext:FuncId→Bool):Code→Bool
 |.skip|.label _|.exit _|.ret=>true
 |.region _ ops _=>ops.all fun o=>okOpB P ok ext o.op
 |.seq a b=>dI P ok ext a&&dI P ok ext b
 |.cond c a b=>okXB ok c&&dI P ok ext a&&dI P ok ext b
 |.block _ b=>dI P ok ext b
 |.loop b=>dI P ok ext b
 |_=>false
theorem ops_of(hE:E.G=P.globals.size){ext:FuncId→Bool}(hx:∀ i,ext i=true→ExtOk P E i){ops:Array Oper}(h:(ops.all fun o=>okOpB P E.ok ext o.op)=true):∀ o∈ops,OkOp P E o.op:=by
 intro o ho;obtain⟨j,hj,rfl⟩:=Array.mem_iff_getElem.1 ho;exact fK hE hx (Array.all_eq_true.1 h j hj)
theorem dR(hE:E.G=P.globals.size){ext:FuncId→Bool}(hx:∀ i,ext i=true→ExtOk P E i):∀ (c:Code),dI P E.ok ext c=true→OkCode P E c
 |.skip,_|.label _,_|.exit _,_|.ret,_=>trivial
 |.region _ ops _,h=>ops_of hE hx h
 |.seq a b,h=>by
  simp only[dI,Bool.and_eq_true]at h;exact⟨dR hE hx a h.1,dR hE hx b h.2⟩
 |.cond c a b,h=>by
  simp only[dI,Bool.and_eq_true]at h;exact⟨aS h.1.1,dR hE hx a h.1.2,dR hE hx b h.2⟩
 |.block _ b,h=>dR hE hx b h
 |.loop b,h=>dR hE hx b h
 |.scope _,h|.goto _,h|.rangeFunc ..,h|.refuse _,h=>by cases h
def soundB(P:Program)(ok ext:List FuncId):Bool:=ok.all fun i=>match P.funcs[i]? with|none=>false|some fn=>match fn.body with|none=>false|some c=>dI P (fun i=>ok.contains i) (fun i=>ext.contains i) c
theorem sound_of{ok ext:List FuncId}{ro:Nat→Prop}(hx:∀ i,ext.contains i=true→ExtOk P ⟨fun i=>ok.contains i,ro,P.globals.size⟩ i)(h:soundB P ok ext=true)(h1:P.follows .staticDataAhead=true)(h2:(P.funcs.all fun f=>((f.body.map readies).getD []).isEmpty)=true):Sound P ⟨fun i=>ok.contains i,ro,P.globals.size⟩:=by
 refine⟨rfl,fun i hi=>?_,h1,fun g=>?_⟩
 ·have:=List.all_eq_true.1 h i (by simpa using hi);split at this
  ·cases this
  ·rename_i fn hfn;split at this
   ·cases this
   ·rename_i c hc;exact⟨fn,c,hfn,hc,dR (E:=⟨fun i=>ok.contains i,ro,P.globals.size⟩) rfl hx c this⟩
 ·unfold Program.stepOf;rw[Array.findIdx?_eq_none_iff];intro f hf;obtain⟨j,hj,rfl⟩:=Array.mem_iff_getElem.1 hf;have:=Array.all_eq_true.1 h2 j hj
  cases hb:P.funcs[j].body with
  |none=>rfl
  |some c =>
   rw[hb]at this;simp only[Option.map_some,Option.getD_some,List.isEmpty_iff]at this;simp[this]
end Co
namespace Cl
open Conc Co
section
variable {P:Program}{A:Nat→Prop}{ok:FuncId→Bool}
abbrev okP(ok:FuncId→Bool):FuncId→Prop:=fun i=>ok i=true
theorem fl_of:∀ (n:Nat) (v:Value),flatB n v=true→Fl v:=by
 intro n
 induction n with
 |zero=>intro v h;cases h
 |succ n ih =>
  intro v h E
  have hall:∀ x:Array Value,x.all (flatB n)=true→∀ u,u∈x→CV E u:=by
   intro x hx u hu;obtain⟨i,hi,rfl⟩:=Array.mem_iff_getElem.1 hu;exact ih _ (Array.all_eq_true.1 hx i hi) E
  cases v with
  |bool b=>exact .bool b
  |int k m=>exact .int k m
  |string s=>exact .string s
  |pointer a=>cases a with
   |none=>exact .ptrN
   |some a=>cases h
  |slice a l c=>cases a with
   |none=>exact .sliceN l c
   |some a=>cases h
  |map r=>cases r with
   |none=>exact .mapN
   |some a=>cases h
  |chan r=>cases r with
   |none=>exact .chanN
   |some a=>cases h
  |nilFunc=>exact .nilFunc
  |nilIface=>exact .nilIface
  |iface t v=>exact .iface (ih v h E)
  |agg x=>exact .agg (hall x h)
  |tuple x=>exact .tuple (hall x h)
  |_=>cases h
def GlA(A:Nat→Prop)(P:Program):Prop:=A P.globals.size
def xB(P:Program)(ok:FuncId→Bool):Operand→Bool
 |.tmp _=>true
 |.const v=>flatB 20 v
 |.global g=>decide (g=P.globals.size)
 |.func i=>ok i
theorem x_of(hG:GlA A P){x:Operand}(h:xB P ok x=true):OkX A (okP ok) x:=by
 cases x with
 |tmp t=>trivial
 |const v=>exact fl_of _ _ h
 |global g=>exact(of_decide_eq_true h:g=P.globals.size)▸hG
 |func i=>exact h
def zfB(P:Program)(t:TypeId):Bool :=
 match P.info? t with
 |none=>true
 |some i=>match i.zero with
  |none=>true
  |some v=>flatB 20 v
theorem zf_of{t:TypeId}(h:zfB P t=true):ZF P t:=by
 intro E i v hi hz;unfold zfB at h;rw[hi]at h;simp only[hz]at h;exact fl_of _ _ h E
def zfeB(P:Program)(t:TypeId):Bool:=match P.underlying t with|some (.slice e)=>zfB P e|_=>true
theorem zfe_of{t:TypeId}(h:zfeB P t=true):∀ e,P.underlying t=some (.slice e)→ZF P e:=by
 intro e he;unfold zfeB at h;rw[he]at h;exact zf_of h
def zfmB(P:Program)(t:TypeId):Bool:=match P.underlying t with|some (.map _ e)=>zfB P e|_=>true
theorem zfm_of{t:TypeId}(h:zfmB P t=true):∀ k e,P.underlying t=some (.map k e)→ZF P e:=by
 intro k e he;unfold zfmB at h;rw[he]at h;exact zf_of h
def mB(P:Program)(ok:FuncId→Bool):Option Operand→Bool
 |none=>true
 |some x=>xB P ok x
theorem m_of(hG:GlA A P){x:Option Operand}(h:mB P ok x=true):OkM A (okP ok) x:=by
 cases x with
 |none=>trivial
 |some x=>exact x_of hG h
def nintB(P:Program)(t:TypeId):Bool:=match P.underlying t with|some (.int _)=>false|_=>true
theorem nint_of{t:TypeId}(h:nintB P t=true):∀ d,P.underlying t=some d→∀ k,d≠.int k:=by
 intro d hd k e;subst e;unfold nintB at h;rw[hd]at h;cases h
def cv2B(P:Program)(s d:TypeId):Bool:=(intB P s&&intB P d) || ((elB P s).isSome&&(match P.underlying d with|some .string=>true|_=>false)) || ((match P.underlying s with|some .string=>true|_=>false)&&(match elB P d with|some e=>(match P.underlying e with|some (.int .u8)=>true|_=>false)|none=>false))
theorem cv2_of{s d:TypeId}(h:cv2B P s d=true):ConvOk P s d:=by
 unfold cv2B at h;rw[Bool.or_eq_true,Bool.or_eq_true,Bool.and_eq_true,Bool.and_eq_true,Bool.and_eq_true]at h;rcases h with(⟨a,b⟩|⟨a,b⟩)|⟨a,b⟩
 ·exact .inl ⟨int_of b,int_of a⟩
 ·right;left;split at b
  ·exact⟨jY a,by assumption⟩
  ·cases b
 ·right;right;split at a
  ·rename_i h1;split at b
   ·rename_i e he;split at b
    ·exact⟨h1,e,el_of he,by assumption⟩
    ·cases b
   ·cases b
  ·cases a
def callB(P:Program)(ok:FuncId→Bool)(c:Call):Bool :=
 match c.callee with
 |.value x=>xB P ok x&&c.args.all (xB P ok)
 |.builtin .len=>c.args.all (xB P ok)
 |.builtin .copy=>c.args.all (xB P ok)
 |.builtin .append=>match c.args,c.argTypes with
  |⟨[x,y]⟩,⟨[t,t2]⟩=>nintB P t2&&zfeB P t&&xB P ok x&&xB P ok y
  |_,_=>false
 |.builtin .recover=>true
 |_=>false
theorem xs_of(hG:GlA A P){l:Array Operand}(h:l.all (xB P ok)=true):∀ x∈l,OkX A (okP ok) x:=by
 intro x hx;obtain⟨j,hj,rfl⟩:=Array.mem_iff_getElem.1 hx;exact x_of hG (Array.all_eq_true.1 h j hj)
theorem call_of(hG:GlA A P){c:Call}(h:callB P ok c=true):lG P A (okP ok) c:=by
 unfold callB at h;unfold lG;split at h
 ·rename_i x e;simp only[Bool.and_eq_true]at h;simp only[e];exact⟨x_of hG h.1,xs_of hG h.2⟩
 ·rename_i e;simp only[e];exact xs_of hG h
 ·rename_i e;simp only[e];exact xs_of hG h
 ·rename_i e;simp only[e];split at h
  ·rename_i h1 h2;simp only[Bool.and_eq_true]at h;exact⟨_,_,_,_,h1,h2,nint_of h.1.1.1,zfe_of h.1.1.2,x_of hG h.1.2,x_of hG h.2⟩
  ·cases h
 ·rename_i e;simp only[e]
 ·cases h
def psB(P:Program)(ok:FuncId→Bool)(l:Array (Nat×Operand)):Bool:=l.all fun x=>xB P ok x.2
theorem ps_of(hG:GlA A P){l:Array (Nat×Operand)}(h:psB P ok l=true):∀ x∈l,OkX A (okP ok) x.2:=by
 intro x hx;obtain⟨j,hj,rfl⟩:=Array.mem_iff_getElem.1 hx;exact x_of hG (Array.all_eq_true.1 h j hj)
def opB(P:Program)(ok:FuncId→Bool):Op→Bool
 |.move x|.assign x|.box _ x|.load _ x|.unOp _ _ x|.makeInterface _ x|.extract x _|.nilCheck x|.fieldAddr _ x _|.field _ x _|.range _ x|.next x _|.entry x=>xB P ok x
 |.pick c a b=>xB P ok c&&xB P ok a&&xB P ok b
 |.alloc t=>zfB P t
 |.build t parts=>zfB P t&&psB P ok parts
 |.buildSlice t _ parts=>zfeB P t&&psB P ok parts
 |.store _ a x=>xB P ok a&&xB P ok x
 |.binOp _ _ x y _=>xB P ok x&&xB P ok y
 |.convert s d x=>xB P ok x&&cv2B P s d
 |.makeFunc (.func f) first captured=>ok f&&first.all (xB P ok)&&captured.all (xB P ok)
 |.makeMap _ r=>true
 |.makeSlice t l c=>zfeB P t&&xB P ok l&&xB P ok c
 |.slice _ x lo hi mx=>xB P ok x&&mB P ok lo&&mB P ok hi&&mx.isNone
 |.indexAddr _ x i|.index _ x i=>xB P ok x&&xB P ok i
 |.lookup t x i _=>xB P ok x&&xB P ok i&&zfmB P t
 |.mapUpdate _ m k v=>xB P ok m&&xB P ok k&&xB P ok v
 |.call c=>callB P ok c
 |.panic x=>xB P ok x
 |.typeAssert x _ t _=>xB P ok x&&zfB P t
 |.defer c=>(match c.callee with|.value x=>xB P ok x|_=>false)&&c.args.all (xB P ok)
 |_=>false
theorem op_of(hG:GlA A P){o:Op}(h:opB P ok o=true):OkOp P A (okP ok) o:=by
 cases o with
 |move x|assign x|box _ x|load _ x|unOp _ _ x|makeInterface _ x|extract x _|nilCheck x|fieldAddr _ x _|field _ x _|range _ x|next x _|entry x=>exact x_of hG h
 |pick c a b =>
  simp only[opB,Bool.and_eq_true]at h;exact⟨x_of hG h.1.1,x_of hG h.1.2,x_of hG h.2⟩
 |alloc t=>exact zf_of h
 |build t parts =>
  simp only[opB,Bool.and_eq_true]at h;exact⟨zf_of h.1,ps_of hG h.2⟩
 |buildSlice t n parts =>
  simp only[opB,Bool.and_eq_true]at h;exact⟨zfe_of h.1,ps_of hG h.2⟩
 |store t a x =>
  simp only[opB,Bool.and_eq_true]at h;exact⟨x_of hG h.1,x_of hG h.2⟩
 |binOp b t x y t2 =>
  simp only[opB,Bool.and_eq_true]at h;exact⟨x_of hG h.1,x_of hG h.2⟩
 |convert s d x =>
  simp only[opB,Bool.and_eq_true]at h;exact⟨x_of hG h.1,cv2_of h.2⟩
 |makeFunc fn first captured =>
  cases fn with
  |func f =>
   simp only[opB,Bool.and_eq_true]at h;exact⟨⟨f,rfl,h.1.1⟩,xs_of hG h.1.2,xs_of hG h.2⟩
  |_=>cases h
 |makeMap t r=>trivial
 |makeSlice t l c =>
  simp only[opB,Bool.and_eq_true]at h;exact⟨zfe_of h.1.1,x_of hG h.1.2,x_of hG h.2⟩
 |slice t x lo hi mx =>
  simp only[opB,Bool.and_eq_true]at h;exact⟨x_of hG h.1.1.1,m_of hG h.1.1.2,m_of hG h.1.2,Option.isNone_iff_eq_none.1 h.2⟩
 |indexAddr t x i|index t x i =>
  simp only[opB,Bool.and_eq_true]at h;exact⟨x_of hG h.1,x_of hG h.2⟩
 |lookup t x i b =>
  simp only[opB,Bool.and_eq_true]at h;exact⟨x_of hG h.1.1,x_of hG h.1.2,zfm_of h.2⟩
 |mapUpdate t m k v =>
  simp only[opB,Bool.and_eq_true]at h;exact⟨x_of hG h.1.1,x_of hG h.1.2,x_of hG h.2⟩
 |call c=>exact call_of hG h
 |panic x=>exact x_of hG h
 |typeAssert x _ t _ =>
  simp only[opB,Bool.and_eq_true]at h;exact⟨x_of hG h.1,zf_of h.2⟩
 |defer c =>
  simp only[opB,Bool.and_eq_true]at h;obtain⟨h1,h2⟩:=h;split at h1
  ·rename_i x e;exact⟨⟨x,e,x_of hG h1⟩,xs_of hG h2⟩
  ·cases h1
 |_=>cases h
def cB(P:Program)(ok:FuncId→Bool):Code→Bool
 |.skip|.label _|.exit _|.ret|.goto _|.refuse _=>true
 |.region _ ops _=>ops.all fun o=>opB P ok o.op
 |.seq a b=>cB P ok a&&cB P ok b
 |.cond c a b=>xB P ok c&&cB P ok a&&cB P ok b
 |.block _ b|.loop b|.scope b=>cB P ok b
 |.rangeFunc f _ a b=>xB P ok f&&cB P ok a&&cB P ok b
theorem opers_of(hG:GlA A P){ops:Array Oper}(h:(ops.all fun o=>opB P ok o.op)=true):∀ o∈ops,OkOp P A (okP ok) o.op:=by
 intro o ho;obtain⟨j,hj,rfl⟩:=Array.mem_iff_getElem.1 ho;exact op_of hG (Array.all_eq_true.1 h j hj)
theorem c_of(hG:GlA A P):∀ (c:Code),cB P ok c=true→OkC P A (okP ok) c
 |.skip,_|.label _,_|.exit _,_|.ret,_|.goto _,_|.refuse _,_=>trivial
 |.region _ ops _,h=>opers_of hG h
 |.seq a b,h=>by
  simp only[cB,Bool.and_eq_true]at h;exact⟨c_of hG a h.1,c_of hG b h.2⟩
 |.cond c a b,h=>by
  simp only[cB,Bool.and_eq_true]at h;exact⟨x_of hG h.1.1,c_of hG a h.1.2,c_of hG b h.2⟩
 |.block _ b,h=>c_of hG b h
 |.loop b,h=>c_of hG b h
 |.scope b,h=>c_of hG b h
 |.rangeFunc f _ a b,h=>by
  simp only[cB,Bool.and_eq_true]at h;exact⟨x_of hG h.1.1,c_of hG a h.1.2,c_of hG b h.2⟩
def sndB(P:Program)(ok ext:List FuncId):Bool:=ok.all fun i=>ext.contains i || match P.funcs[i]? with|none=>false|some fn=>!(fn.name== "runtime.NumGoroutine")&&match fn.body with|none=>false|some c=>cB P (fun i=>ok.contains i) c
abbrev okl(ok:List FuncId):FuncId→Prop:=okP fun i=>ok.contains i
theorem snd_of{ok ext:List FuncId}(hG:GlA A P)(h:sndB P ok ext=true)(he:∀ i,ext.contains i=true→FOk P A (okl ok) i)(h1:P.follows .staticDataAhead=true)(h2:(P.funcs.all fun f=>((f.body.map readies).getD []).isEmpty)=true)(h3:P.follows .rangeFuncRecover=true):Snd2 P A (okl ok):=by
 refine⟨⟨hG,fun i hi=>?_⟩,⟨h1,fun g=>?_⟩,h3⟩
 ·have:=List.all_eq_true.1 h i (by simpa[okl,okP] using hi);rw[Bool.or_eq_true]at this;rcases this with this|this
  ·exact he i this
  ·split at this
   ·cases this
   ·rename_i fn hfn;simp only[Bool.and_eq_true,Bool.not_eq_true']at this;obtain⟨hn,hb⟩:=this;split at hb
    ·cases hb
    ·rename_i c hc;exact⟨fn,hfn,hn,.inl ⟨c,hc,c_of hG c hb⟩⟩
 ·unfold Program.stepOf;rw[Array.findIdx?_eq_none_iff];intro f hf;obtain⟨j,hj,rfl⟩:=Array.mem_iff_getElem.1 hf;have:=Array.all_eq_true.1 h2 j hj
  cases hb:P.funcs[j].body with
  |none=>rfl
  |some c =>
   rw[hb]at this;simp only[Option.map_some,Option.getD_some,List.isEmpty_iff]at this;simp[this]
end
end Cl
namespace Co
open Conc
def fnA(i:FuncId):Func:=(Tryz.prog.funcs[i]?).getD default
theorem ext_of{E:Env}{i:FuncId}{e:Array Value→Sem Value}(h1:Tryz.prog.funcs[i]? = some (fnA i))(h2:((fnA i).name== "runtime.NumGoroutine")=false)(h3:(fnA i).body.isNone=true)(h4:Extern.findNext (fnA i)=none)(h5:Extern.find (fnA i)=some e)(h6:∀ (f:Fm) a a',AR E.ok f a a'→SRel Tryz.prog E f (e a) (e a') (VV E)):ExtOk Tryz.prog E i :=
 ⟨fnA i,e,h1,h2,h3,h4,h5,h6⟩
def okL:List FuncId:=[20,37,24,81,82,83,51,80,100,115,102,116,118,119,127,21,9,18,36,38,39,40,41,60,61,59,92,29,16,17,19,33,34,35,57,58,6,22,23,7,25,13]
def exL:List FuncId:=[101,117,126]
def EN(ro:Nat→Prop):Env:=⟨fun i=>okL.contains i,ro,Tryz.prog.globals.size⟩
theorem cnt_find:Extern.find (fnA 101)=some Extern.BytealgCount.count:=by kernel_rfl
theorem idx_find:Extern.find (fnA 117)=some Extern.BytealgIndex.index:=by kernel_rfl
theorem idb_find:Extern.find (fnA 126)=some Extern.BytealgIndexByte.indexByte:=by kernel_rfl
theorem iH(ro:Nat→Prop):∀ i,exL.contains i=true→ExtOk Tryz.prog (EN ro) i:=by
 intro i hi;simp only[exL,List.contains_eq_mem,List.mem_cons,List.not_mem_nil,or_false,decide_eq_true_eq]at hi;rcases hi with rfl|rfl|rfl
 ·exact ext_of (by kernel_rfl) (by kernel_rfl) (by kernel_rfl) (by kernel_rfl) cnt_find fun f a a' h=>x_count h
 ·exact ext_of (by kernel_rfl) (by kernel_rfl) (by kernel_rfl) (by kernel_rfl) idx_find fun f a a' h=>x_index rfl h
 ·exact ext_of (by kernel_rfl) (by kernel_rfl) (by kernel_rfl) (by kernel_rfl) idb_find fun f a a' h=>x_indexByte h
theorem okL_sound:soundB Tryz.prog okL exL=true:=by decide +kernel
theorem lT:(Tryz.prog.funcs.all fun f=>((f.body.map readies).getD []).isEmpty)=true:=by decide +kernel
theorem bV(ro:Nat→Prop):Sound Tryz.prog (EN ro):=sound_of (iH ro) okL_sound rfl lT
theorem aY(ro:Nat→Prop)(c:Code)(h:dI Tryz.prog (fun i=>okL.contains i) (fun i=>exL.contains i) c=true):OkCode Tryz.prog (EN ro) c:=dR (E:=EN ro) rfl (iH ro) c h
end Co
namespace Cl
open Conc Co
def fnAt(i:FuncId):Func:=(Tryz.prog.funcs[i]?).getD default
def okA:List FuncId:=[31,54,55,56,89,90,91,104,105,106,107,108,109,110,111,112,113,114,120,121,122,123,124,125,128]
theorem okA_snd:sndB Tryz.prog okA []=true:=by decide +kernel
theorem lT:(Tryz.prog.funcs.all fun f=>((f.body.map readies).getD []).isEmpty)=true:=by decide +kernel
theorem snd{A:Nat→Prop}(hG:GlA A Tryz.prog):Snd2 Tryz.prog A (okl okA):=snd_of hG okA_snd (fun i h=>by cases h) rfl lT rfl
def okR:List FuncId:=[12,28,44,45,46,24,10,8,26,42]
theorem okR_snd:sndB Tryz.prog okR []=true:=by decide +kernel
theorem sndR{A:Nat→Prop}(hG:GlA A Tryz.prog):Snd2 Tryz.prog A (okl okR):=snd_of hG okR_snd (fun i h=>by cases h) rfl lT rfl
end Cl
namespace Ph
open Conc Co Cl
def Calms(P:Program)(main:Bool):Nat→Goroutine→Prop
 |0,_=>True
 |n+1,g=>g.status=.running∧(∀w,stepG P main g w=.go (nextG P g) w #[])∧Calms P main n (nextG P g)
def it(P:Program):Nat→Goroutine→Goroutine
 |0,g=>g
 |n+1,g=>it P n (nextG P g)
section
variable {X:Cx}{main:Bool}{D:Array Event→Prop}{Stop:Bl→Goroutine→World→Prop}{own:Bl}{w:World}
theorem Gl.calms(hD:D #[]):∀ (n:Nat) {g:Goroutine},Calms X.P main n g→Gl X main D Stop own (it X.P n g) w→Gl X main D Stop own g w
 |0,g,_,h=>h
 |n+1,g,⟨h1,h2,h3⟩,h=>Gl.mute hD h1 h2 (Gl.calms hD n h3 h)
end
def rOps(g:Goroutine):Array Oper:=match g.frame.todo with|.inRegion ops _::_=>ops|_=>#[]
def rI(g:Goroutine):Nat:=match g.frame.todo with|.inRegion _ (i::_)::_=>i|_=>0
def rRest(g:Goroutine):List Nat:=match g.frame.todo with|.inRegion _ (_::r)::_=>r|_=>[]
def rK(g:Goroutine):List Item:=match g.frame.todo with|_::k=>k|_=>[]
def aOf(g:Goroutine):Act:=⟨g.frame.tmps,g.frame.defers⟩
def AtOp(g:Goroutine):Prop:=g=G (g.frame.at (aOf g) (.inRegion (rOps g) (rI g::rRest g)::rK g)) g.callers
def fin(g:Goroutine)(v:Value):Goroutine:={g with frame:=g.frame.finish v}
theorem fZ{g:Goroutine}{o:Oper}(h:AtOp g)(ho:(rOps g)[rI g]? = some o)(v:Value):G (g.frame.at ((aOf g).put o.dst v) (.inRegion (rOps g) (rRest g)::rK g)) g.callers=fin g v:=by
 have:=Frame.finish_at g.frame (aOf g) (rOps g) (rI g) (rRest g) (rK g) v;rw[ho]at this;rw[show(some o).bind (·.dst)=o.dst from rfl]at this;rw[←this];unfold fin;unfold AtOp at h
 conv=>rhs;rw[h]
 rfl
end Ph
