/- Texts of this seat,put together: ClStep2,ClStep3,CoGlue,CoTree,ClTree,ClWins. -/
import Derived.Test.YtlaipigilikmbaaGreatDoorMb5
import Derived.Test.YtlaipigilikmbaaGreatDoorMb1
import Derived.Conc.Beside
namespace Go.Proofs.YtlaipigilikmbaaGreatDoor
noncomputable section
set_option linter.unusedVariables false
set_option linter.unusedSimpArgs false
namespace Cl
open Conc Co
section
variable {P:Program}{A:Nat→Prop}{ok:FuncId→Prop}
theorem aj{main:Bool}{fr:Frame}{cs:List Frame}{w:World}(hm:fr.mode=.run):stepG P main (G fr cs) w=stepG.exec P main true fr cs none w:=by simp only[G,stepG,hm]
theorem step_ret{main:Bool}{fr:Frame}{cs:List Frame}{w:World}(hm:fr.mode=.returning):stepG P main (G fr cs) w=unwind P main fr cs none w:=by simp only[G,stepG,hm]
theorem step_pan{main:Bool}{fr:Frame}{cs:List Frame}{w:World}{ch:List PanicEntry}(hm:fr.mode=.panicking ch):stepG P main (G fr cs) w=unwind P main fr cs none w:=by simp only[G,stepG,hm]
theorem U.out{α:Type}{E:Ev}{s:Sem α}{Q:α→Prop}(h:U P E s Q){w:World}(hw:HC E w) :
 (∃a w' es n,Q a∧HC E w'∧Fw E w w'∧(∀e∈es,EvA E w'.heap.size e)∧w'.drawn=w.drawn+n∧w'.tape=w.tape∧∀ τ d,(∀i,i<n→τ (d+i)=w.tape (w.drawn+i))→s.runT P (re w τ d) #[]=(.ok a (re w' τ (d+n)),es)) ∨
 (∃v w' es n,CV E v∧HC E w'∧Fw E w w'∧(∀e∈es,EvA E w'.heap.size e)∧w'.drawn=w.drawn+n∧w'.tape=w.tape∧∀ τ d,(∀i,i<n→τ (d+i)=w.tape (w.drawn+i))→s.runT P (re w τ d) #[]=(.halt (.panic v) (re w' τ (d+n)),es)) ∨
 ∃x w' es,(∀v,x≠.panic v)∧x≠.goexit∧s.runT P w #[]=(.halt x w',es):=by
 obtain⟨h1,h2⟩:=h w #[] hw;unfold LocT at h2;generalize hr:s.runT P w #[]=r at h1 h2;obtain⟨r,es⟩:=r
 cases r with
 |ok a w' =>
  obtain⟨ha,hc,fw,new,hes,hev⟩:=h1;obtain⟨n,l1,l2,l3⟩:=h2
  have hes2:es=new:=by rw[hes];simp
  subst hes2;exact .inl ⟨a,w',es,n,ha,hc,fw,hev,l1,l2,l3⟩
 |halt x w' =>
  cases x with
  |panic v =>
   obtain⟨ha,hc,fw,new,hes,hev⟩:=h1;obtain⟨n,l1,l2,l3⟩:=h2
   have hes2:es=new:=by rw[hes];simp
   subst hes2;exact .inr (.inl ⟨v,w',es,n,ha,hc,fw,hev,l1,l2,l3⟩)
  |goexit=>exact h1.elim
  |_=>exact .inr (.inr ⟨_,w',es,(fun v e=>by cases e),(fun e=>by cases e),rfl⟩)
theorem bz{it:Item}{k:List Item}(h:ItC P A ok it)(hk:∀ x∈k,ItC P A ok x):∀ x∈it::k,ItC P A ok x:=fun x hx=>by
 rcases List.mem_cons.1 hx with rfl|hx
 ·exact h
 ·exact hk x hx
theorem exit_cl{id:Nat}:∀ {k k':List Item},(∀x∈k,ItC P A ok x)→exitTo id k=some k'→∀ x∈k',ItC P A ok x
 |[],_,_,h=>by cases h
 |it::k,k',h,hk=>by
  have ht:∀ x∈k,ItC P A ok x:=fun x hx=>h x (List.mem_cons_of_mem _ hx)
  cases it with
  |inBlock id' =>
   simp only[exitTo]at hk;split at hk
   ·cases hk;exact ht
   ·exact exit_cl ht hk
  |_=>simp only[exitTo]at hk;exact exit_cl ht hk
theorem label_cl{l:Nat}:∀ {c c':Code},OkC P A ok c→findLabel c l=some c'→OkC P A ok c'
 |.seq a b,c',h,e=>by
  simp only[findLabel]at e;split at e
  ·rename_i r hr;cases e;exact⟨label_cl h.1 hr,h.2⟩
  ·exact label_cl h.2 e
 |.label l',c',h,e=>by
  simp only[findLabel]at e;split at e
  ·cases e;trivial
  ·cases e
 |.skip,_,_,e|.region ..,_,_,e|.cond ..,_,_,e|.block ..,_,_,e|.loop _,_,_,e|.rangeFunc ..,_,_,e|.exit _,_,_,e|.scope _,_,_,e|.goto _,_,_,e|.ret,_,_,e|.refuse _,_,_,e=>by cases e
theorem goto_cl{l:Nat}:∀ {k k':List Item},(∀x∈k,ItC P A ok x)→gotoIn l k=some k'→∀ x∈k',ItC P A ok x
 |[],_,_,h=>by cases h
 |it::k,k',h,hk=>by
  have ht:∀ x∈k,ItC P A ok x:=fun x hx=>h x (List.mem_cons_of_mem _ hx);have h0:=h it (List.mem_cons_self ..)
  cases it with
  |inScope b =>
   simp only[gotoIn]at hk
   cases h0 with
   |inScope hb =>
    split at hk
    ·rename_i r hr;cases hk;exact bz (.code (label_cl hb hr)) (bz (.inScope hb) ht)
    ·exact goto_cl ht hk
  |_=>simp only[gotoIn]at hk;exact goto_cl ht hk
theorem back_def{fr f:Frame}(hk:fr.kind=.deferred)(hf:FrC P A ok f):∃ f',FrC P A ok f'∧f'.kind=f.kind∧f'.roundOf=f.roundOf∧∀ main k0 k v r w2,doReturn P main (wk fr k0) (wk f k::r) none v w2=.go (G (wk f' k) r) w2 #[]:=by
 simp only[doReturn,wk,hk];split
 ·rename_i e older hmode;have ho:∀ y∈older,CV (EV P A ok) y.v:=fun y hy=>hf.mode _ hmode y (List.mem_cons_of_mem _ hy);split
  ·exact⟨{f with mode:=.returning},⟨hf.fn,hf.tmps,hf.todo,hf.defers,(fun ch e=>by cases e),hf.round,hf.kind⟩,rfl,rfl,fun _ _ _ _ _ _=>rfl⟩
  ·rename_i rest hr;refine⟨{f with mode:=.panicking _},⟨hf.fn,hf.tmps,hf.todo,hf.defers,(fun ch e y hy=>?_),hf.round,hf.kind⟩,rfl,rfl,fun _ _ _ _ _ _=>rfl⟩;cases e;exact ho y (List.dropWhile_sublist _ |>.subset hy)
 ·exact⟨f,hf,rfl,rfl,fun _ _ _ _ _ _=>rfl⟩
theorem back_norm{fr f:Frame}(hk:fr.kind=.normal)(hf:f.todo≠[])(main:Bool)(k0 k:List Item)(v:Value)(r:List Frame)(w2:World):doReturn P main (wk fr k0) (wk f k::r) none v w2=.go (G (wk (f.finish v) k) r) w2 #[]:=by
 simp only[doReturn,wk,hk];show GStep.go (G ((wk f k).finish v) r) w2 #[]=_;rw[ik hf];rfl
theorem gp(hS:Snd2 P A ok){pc main:Bool}{fr:Frame}{frs:List Frame}{w:World}{l:Nat}{j:Option Code}(hw:HC (EV P A ok) w)(st:StC P A ok fr frs)(hl:fr.roundOf=some l)(hj:∀ c,j=some c→OkC P A ok c)
 (h:∀ L w,stepG P main (G (wk fr []) L) w=(let (r,es):=(Instr.endRound l j).runT P w #[]
  GStep.after (seen P fr.fn es) <| match r with
  |.ok v w=>doReturn P main (wk fr []) L none v w
  |.halt _ w=>.ended (.stuck "range over a function: no such loop" ((wk fr []).pos P)) w)):Out P A ok pc main fr frs w:=by
 cases frs with
 |nil =>
  have:=st.bot.2;rw[hl]at this;cases this
 |cons f frs =>
  rcases(u_endRound (E:=EV P A ok) (P:=P) (st.top.round l hl) hj).out hw with⟨v,w',es,n,hv,hc,fw,hev,l1,l2,l3⟩|⟨v,w',es,n,hv,hc,fw,hev,l1,l2,l3⟩|⟨x,w',es,h1,h2,h3⟩
  ·have hf:=st.pop.top;rcases st.top.kind with hk|hk
   ·obtain⟨k1,k2,k3⟩:=hf.finish hv;refine .on (n:=n) (es:=seen P fr.fn es) (fr':=f.finish v) (frs':=frs) ⟨l1,l2,fun k cs τ d _ ht=>?_⟩ (st.pop.swap k1 k2 k3) hc fw (bZ hev);show stepG P main (G (wk fr []) (wk f (kt frs k)::(addK frs k++cs))) _=_;rw[h,l3 τ d ht];simp only[GStep.after,back_norm hk (st.ne.1 hk),Array.append_empty];rfl
   ·obtain⟨f',k2,k3,k4,k5⟩:=back_def hk hf;refine .on (n:=n) (es:=seen P fr.fn es) (fr':=f') (frs':=frs) ⟨l1,l2,fun k cs τ d _ ht=>?_⟩ (st.pop.swap k2 k3 k4) hc fw (bZ hev);show stepG P main (G (wk fr []) (wk f (kt frs k)::(addK frs k++cs))) _=_;rw[h,l3 τ d ht];simp only[GStep.after,k5,Array.append_empty];rfl
  ·refine .bad fun k c cs _=>?_;have:=l3 w.tape w.drawn fun _ _=>rfl;rw[bQ]at this;show Bad (stepG P main (G (wk fr []) _) w);rw[h,this];exact .inl ⟨_,_,_,rfl⟩
  ·refine .bad fun k c cs _=>?_;show Bad (stepG P main (G (wk fr []) _) w);rw[h,h3];exact .inl ⟨_,_,_,rfl⟩
theorem fM{id:Nat}:∀ (a b:List Item),exitTo id (a++b)=match exitTo id a with|some r=>some (r++b)|none=>exitTo id b
 |[],b=>rfl
 |it::a,b=>by
  cases it with
  |inBlock l =>
   simp only[List.cons_append,exitTo];split
   ·rfl
   ·exact fM a b
  |_=>simp only[List.cons_append,exitTo];exact fM a b
theorem fH{id:Nat}:∀ (a b:List Item),gotoIn id (a++b)=match gotoIn id a with|some r=>some (r++b)|none=>gotoIn id b
 |[],b=>rfl
 |it::a,b=>by
  cases it with
  |inScope c =>
   simp only[List.cons_append,gotoIn];split
   ·rfl
   ·exact fH a b
  |_=>simp only[List.cons_append,gotoIn];exact fH a b
theorem out_exec(hS:Snd2 P A ok){pc main:Bool}{fr:Frame}{frs:List Frame}{w:World}(hw:HC (EV P A ok) w)(st:StC P A ok fr frs)(hm:fr.mode=.run):Out P A ok pc main fr frs w:=by
 have hF:=st.top;obtain⟨fn,tmps,todo,defers,mode,kind,roundOf⟩:=fr
 dsimp only at hm
 subst hm;have hT:=hF.todo
 dsimp only at hT
 have calm:∀ todo',(∀x∈todo',ItC P A ok x)→(∀k L w,stepG P main (G ⟨fn,tmps,todo++k,defers,.run,kind,roundOf⟩ L) w=.go (G ⟨fn,tmps,todo'++k,defers,.run,kind,roundOf⟩ L) w #[])→Out P A ok pc main ⟨fn,tmps,todo,defers,.run,kind,roundOf⟩ frs w :=
  fun todo' ht h=>.calm (fr':=⟨fn,tmps,todo',defers,.run,kind,roundOf⟩) hw h (st.swap (hF.set ht) rfl rfl)
 have lost:(∀k L w,∃o es,stepG P main (G ⟨fn,tmps,todo++k,defers,.run,kind,roundOf⟩ L) w=.ended o w es)→Out P A ok pc main ⟨fn,tmps,todo,defers,.run,kind,roundOf⟩ frs w :=
  fun h=>.bad fun k c cs _=>by
   obtain⟨o,es,e⟩:=h (kt frs k) (addK frs k++c::cs) w;exact .inl ⟨o,w,es,e⟩
 have jump:∀ (hcs:∀ why L w,∃o es,stepG P main (G ⟨fn,tmps,todo++[.code (.refuse why)],defers,.run,kind,roundOf⟩ L) w=.ended o w es) (hcn:∀ L w,∃o es,stepG P main (G ⟨fn,tmps,todo,defers,.run,kind,roundOf⟩ L) w=.ended o w es),Out P A ok pc main ⟨fn,tmps,todo,defers,.run,kind,roundOf⟩ frs w:=fun hcs hcn=>by
  cases frs with
  |nil =>
   cases pc with
   |true =>
    refine .jump rfl rfl rfl fun why c cs=>?_;obtain⟨o,es,e⟩:=hcs why (c::cs) w;exact .inl ⟨o,w,es,e⟩
   |false =>
    refine .bad fun k c cs hk=>?_;obtain rfl:=hk rfl;obtain⟨o,es,e⟩:=hcn (c::cs) w;refine .inl ⟨o,w,es,?_⟩;unfold gk wk kt;rw[List.append_nil];exact e
  |cons f frs =>
   refine .bad fun k c cs _=>?_;obtain⟨o,es,e⟩:=hcn (addK (f::frs) k++c::cs) w;refine .inl ⟨o,w,es,?_⟩;unfold gk wk kt;rw[List.append_nil];exact e
 cases todo with
 |nil =>
  cases roundOf with
  |none =>
   have hret:∀ L w,stepG P main (G ⟨fn,tmps,[],defers,.run,kind,none⟩ L) w=.go (G ⟨fn,tmps,[],defers,.returning,kind,none⟩ L) w #[]:=fun L w=>by rw[aj rfl];simp[stepG.exec,G]
   have st2:StC P A ok ⟨fn,tmps,[],defers,.returning,kind,none⟩ frs:=st.swap ⟨hF.fn,hF.tmps,hF.todo,hF.defers,(fun ch e=>by cases e),hF.round,hF.kind⟩ rfl rfl
   cases frs with
   |nil =>
    cases pc with
    |true=>exact .arrive rfl rfl rfl rfl
    |false=>exact .on (fr':=⟨fn,tmps,[],defers,.returning,kind,none⟩) (frs':=[]) (w':=w) (es:=#[]) (n:=0) ⟨rfl,rfl,fun k cs τ d hk _=>by obtain rfl:=hk rfl;exact hret _ _⟩ st2 hw (.refl w) fun e he=>by simp at he
   |cons f frs=>exact .on (fr':=⟨fn,tmps,[],defers,.returning,kind,none⟩) (frs':=f::frs) (w':=w) (es:=#[]) (n:=0) ⟨rfl,rfl,fun k cs τ d hk _=>hret _ _⟩ st2 hw (.refl w) fun e he=>by simp at he
  |some l=>exact gp hS hw st rfl (j:=none) (fun c e=>by cases e) fun L w=>by rw[aj rfl];rfl
 |cons it k =>
  have h0:=hT it (List.mem_cons_self ..);have hk:∀ x∈k,ItC P A ok x:=fun x hx=>hT x (List.mem_cons_of_mem _ hx)
  cases h0 with
  |@code c hc =>
   cases c with
   |ret =>
    cases roundOf with
    |none =>
     refine .calm (fr':=⟨fn,tmps,.code .ret::k,defers,.returning,kind,none⟩) hw (fun k' L w=>?_) (st.swap ⟨hF.fn,hF.tmps,hF.todo,hF.defers,(fun ch e=>by cases e),hF.round,hF.kind⟩ rfl rfl);rw[aj rfl];simp[stepG.exec,G,wk]
    |some l=>exact gp hS hw st rfl (j:=some .ret) (fun c e=>by cases e;trivial) fun L w=>by rw[aj rfl];rfl
   |skip=>exact calm k hk fun _ _ w=>by rw[aj rfl];rfl
   |label l=>exact calm k hk fun _ _ w=>by rw[aj rfl];rfl
   |seq a b=>exact calm _ (bz (.code hc.1) (bz (.code hc.2) hk)) fun _ _ w=>by rw[aj rfl];rfl
   |cond c a b =>
    by_cases hb:∃ t,(⟨fn,tmps,.code (.cond c a b)::k,defers,.run,kind,roundOf⟩:Frame).eval c=.bool t
    ·obtain⟨t,ht⟩:=hb;refine calm (.code (if t then a else b)::k) (bz (.code ?_) hk) fun k' L w=>?_
     ·cases t;exact hc.2.2;exact hc.2.1
     ·have ht':(⟨fn,tmps,.code (.cond c a b)::(k++k'),defers,.run,kind,roundOf⟩:Frame).eval c=.bool t:=ht;rw[aj rfl];simp only[List.cons_append,stepG.exec,ht'];rfl
    ·refine lost fun k' L w=>?_;rw[aj rfl];simp only[List.cons_append,stepG.exec];rw[show(⟨fn,tmps,.code (.cond c a b)::(k++k'),defers,.run,kind,roundOf⟩:Frame).eval c=(⟨fn,tmps,.code (.cond c a b)::k,defers,.run,kind,roundOf⟩:Frame).eval c from rfl];generalize (⟨fn,tmps,.code (.cond c a b)::k,defers,.run,kind,roundOf⟩:Frame).eval c=v at hb
     cases v with
     |bool t=>exact absurd ⟨t,rfl⟩ hb
     |_=>exact⟨_,_,rfl⟩
   |block l b=>exact calm (.code b::.inBlock l::k) (bz (.code (c:=b) hc) (bz (.inBlock l) hk)) fun _ _ w=>by rw[aj rfl];rfl
   |loop b=>exact calm (.code b::.inLoop b::k) (bz (.code (c:=b) hc) (bz (.inLoop (c:=b) hc) hk)) fun _ _ w=>by rw[aj rfl];rfl
   |scope b=>exact calm (.code b::.inScope b::k) (bz (.code (c:=b) hc) (bz (.inScope (c:=b) hc) hk)) fun _ _ w=>by rw[aj rfl];rfl
   |exit id =>
    cases he:exitTo id k with
    |some k'=>exact calm k' (exit_cl hk he) fun k2 L w=>by rw[aj rfl];simp only[List.cons_append,stepG.exec,fM,he,Option.elim];rfl
    |none =>
     cases roundOf with
     |none=>exact jump (fun why L w=>by rw[aj rfl];simp only[List.cons_append,stepG.exec,fM,he];exact⟨_,_,rfl⟩) fun L w=>by rw[aj rfl];simp only[stepG.exec,he];exact⟨_,_,rfl⟩
     |some l=>exact gp hS hw st rfl (j:=some (.exit id)) (fun c e=>by cases e;trivial) fun L w=>by rw[aj rfl];simp only[wk,List.append_nil,stepG.exec,he,Option.elim];rfl
   |goto id =>
    cases he:gotoIn id k with
    |some k'=>exact calm k' (goto_cl hk he) fun k2 L w=>by rw[aj rfl];simp only[List.cons_append,stepG.exec,fH,he,Option.elim];rfl
    |none =>
     cases roundOf with
     |none=>exact jump (fun why L w=>by rw[aj rfl];simp only[List.cons_append,stepG.exec,fH,he];exact⟨_,_,rfl⟩) fun L w=>by rw[aj rfl];simp only[stepG.exec,he];exact⟨_,_,rfl⟩
     |some l=>exact gp hS hw st rfl (j:=some (.goto id)) (fun c e=>by cases e;trivial) fun L w=>by rw[aj rfl];simp only[wk,List.append_nil,stepG.exec,he,Option.elim];rfl
   |refuse why=>exact lost fun k' L w=>by rw[aj rfl];exact⟨_,_,rfl⟩
   |region id ops draw =>
    cases draw with
    |false=>exact calm (.inRegion ops (List.range ops.size)::k) (bz (.inRegion hc) hk) fun k' L w=>by rw[aj rfl];simp[stepG.exec,G]
    |true =>
     rcases(U.choose (P:=P) (E:=EV P A ok) (q:=.order fn id)).out hw with⟨t,w',es,n,-,hc',fw,hev,l1,l2,l3⟩|⟨v,w',es,n,hv,hc',fw,hev,l1,l2,l3⟩|⟨x,w',es,h1,h2,h3⟩
     ·refine .on (n:=n) (w':=w') (es:=#[]) (fr':=⟨fn,tmps,.inRegion ops (Region.schedule (P.follows .mixedOrders) ops t)::k,defers,.run,kind,roundOf⟩) (frs':=frs) ⟨l1,l2,fun k' cs τ d _ ht=>?_⟩ (st.swap (hF.set (bz (.inRegion hc) hk)) rfl rfl) hc' fw fun e he=>by simp at he
      unfold gk;rw[aj rfl];have e:=congrArg Prod.fst (l3 τ d ht);rw[Sem.runT_fst]at e;simp only[wk,List.cons_append,stepG.exec,Bool.not_true,Bool.false_eq_true,if_false,e];rfl
     ·have e:=l3 w.tape w.drawn fun _ _=>rfl;simp only[Go.choose,Sem.runT]at e;split at e<;>cases e
     ·simp only[Go.choose,Sem.runT]at h3;split at h3<;>cases h3
   |rangeFunc f params assign body =>
    obtain⟨hf,ha,hb⟩:=hc;rcases(u_enterLoop (P:=P) (E:=EV P A ok) (params:=params) (around:=roundOf) hF.fn hF.tmps ha hb hF.round).out hw with⟨⟨l,mark⟩,w',es,n,hl,hc',fw,hev,l1,l2,l3⟩|⟨v,w',es,n,hv,hc',fw,hev,l1,l2,l3⟩|⟨x,w',es,h1,h2,h3⟩
    ·refine out_apply2 (n0:=n) (es0:=seen P fn es) (fr0:=⟨fn,tmps,.inRangeFunc l::k,mark++defers,.run,kind,roundOf⟩) (s:=do let d ←Deferred.ofValue ((⟨fn,tmps,.inRangeFunc l::k,mark++defers,.run,kind,roundOf⟩:Frame).eval f) #[.func (.yield l) #[] #[]];invoke d.target d.args) hS hc' fw (bZ hev) l1 l2 (st.swap ⟨hF.fn,hF.tmps,bz (.inRangeFunc hl.1) hk,fun d hd=>?_,hF.mode,hF.round,hF.kind⟩ rfl rfl) (by simp) ((u_callValue hS.toSnd ?_ (.one (.yield hl.1 (fun u h=>by simp at h) (fun u h=>by simp at h)))).mono fun _ h=>h.c) fun k' L τ d ht=>?_
     ·rcases List.mem_append.1 hd with hd|hd
      ·exact hl.2 d hd
      ·exact hF.defers d hd
     ·cases f with
      |tmp t=>exact hF.tmps.getD t
      |const v=>exact hf _
      |global g=>exact .ptr hf
      |func f=>exact .func hf (fun u h=>by simp at h) (fun u h=>by simp at h)
     ·rw[aj rfl];simp only[wk,List.cons_append,stepG.exec,l3 τ d ht,resolve,List.map_toArray,List.map_cons,List.map_nil];rfl
    ·refine .bad fun k c cs _=>?_;have:=l3 w.tape w.drawn fun _ _=>rfl;rw[bQ]at this;unfold gk;rw[aj rfl];simp only[wk,List.cons_append,stepG.exec,this];exact .inl ⟨_,_,_,rfl⟩
    ·refine .bad fun k c cs _=>?_;unfold gk;rw[aj rfl];simp only[wk,List.cons_append,stepG.exec,h3];exact .inl ⟨_,_,_,rfl⟩
  |inBlock l=>exact calm k hk fun _ _ w=>by rw[aj rfl];rfl
  |inScope hb=>exact calm k hk fun _ _ w=>by rw[aj rfl];rfl
  |inLoop hb=>exact calm _ (bz (.code hb) (bz (.inLoop hb) hk)) fun _ _ w=>by rw[aj rfl];rfl
  |inRangeFunc hl=>exact lost fun k' L w=>by rw[aj rfl];exact⟨_,_,rfl⟩
  |beginRound =>
   cases roundOf with
   |none=>exact kM hS hw st (by simp) (s:=do stuck "beginRound: no round";Pure.pure .skip) (U.bind (Q:=fun _:Unit=>True) .stuck fun _ _=>.pure trivial) fun _ _ w=>by rw[aj rfl];rfl
   |some l=>exact kM hS hw st (by simp) (s:=do Instr.beginRound l;Pure.pure .skip) ((u_beginRound hS.types (hF.round l rfl)).bind fun _ _=>.pure trivial) fun _ _ w=>by rw[aj rfl];rfl
  |@endRangeFunc l hl =>
   rcases(u_endLoop (P:=P) (E:=EV P A ok) hS.types hl).out hw with⟨j,w',es,n,hj,hc',fw,hev,l1,l2,l3⟩|⟨v,w',es,n,hv,hc',fw,hev,l1,l2,l3⟩|⟨x,w',es,h1,h2,h3⟩
   ·refine .on (n:=n) (w':=w') (es:=seen P fn es) (fr':=⟨fn,tmps,(j.map Item.code).toList++k,defers,.run,kind,roundOf⟩) (frs':=frs) ⟨l1,l2,fun k' cs τ d _ ht=>?_⟩ (st.swap (hF.set fun x hx=>?_) rfl rfl) hc' fw (bZ hev)
    ·unfold gk;rw[aj rfl];simp only[wk,List.cons_append,stepG.exec,l3 τ d ht,GStep.after,Array.append_empty,List.append_assoc];rfl
    ·rcases List.mem_append.1 hx with hx|hx
     ·cases j with
      |none=>cases hx
      |some c =>
       simp at hx;subst hx;exact .code (hj c rfl)
     ·exact hk x hx
   ·obtain⟨k1,k2,k3⟩:=hF.raise (ch:=[{v,recovered:=false}]) fun e he=>by rw[List.mem_singleton]at he;subst he;exact hv
    refine .on (n:=n) (w':=w') (es:=seen P fn es) (frs':=frs) ⟨l1,l2,fun k' cs τ d _ ht=>?_⟩ (st.swap k1 k2 k3) hc' fw (bZ hev);unfold gk;rw[aj rfl,←raise_k];simp only[wk,List.cons_append,stepG.exec,l3 τ d ht,GStep.after,Array.append_empty];rfl
   ·refine .bad fun k' c cs _=>?_;unfold gk;rw[aj rfl];simp only[wk,List.cons_append,stepG.exec,h3]
    cases x with
    |panic v=>exact absurd rfl (h1 v)
    |_=>exact .inl ⟨_,_,_,rfl⟩
  |@inRegion ops l ho =>
   cases l with
   |nil=>exact calm k hk fun _ _ w=>by rw[aj rfl];rfl
   |cons i rest =>
    by_cases hn:((ops[i]?).map (Region.wanted · (yielded ops tmps))).getD false=true
    ·cases hoi:ops[i]? with
     |none=>rw[hoi]at hn;cases hn
     |some o =>
      have hop:=ho o (Array.mem_of_getElem? hoi)
      have hρ:∀ x,OkX A ok x→CV (EV P A ok) ((⟨fn,tmps,.inRegion ops (i::rest)::k,defers,.run,kind,roundOf⟩:Frame).eval x):=fun x hx=>by
       cases x with
       |tmp t=>exact hF.tmps.getD t
       |const v=>exact hx _
       |global g=>exact .ptr hx
       |func f=>exact .func hx (fun u h=>by simp at h) (fun u h=>by simp at h)
      rw[hoi]at hn;by_cases hdr:∃ l c,roundOf=some l∧o.op=.defer c
      ·obtain⟨l,c,rfl,hoc⟩:=hdr;rw[hoc]at hop;obtain⟨⟨x,hx,hxo⟩,ha⟩:=hop;refine kM hS hw st (by simp) (s:=do let d ←resolve (⟨fn,tmps,.inRegion ops (i::rest)::k,defers,.run,kind,some l⟩:Frame).eval c o.type;Instr.deferInRound l d;Pure.pure .skip) ?_ fun k' L w=>?_
       ·refine U.bind (Q:=CD (EV P A ok)) ?_ fun d hd=>(u_deferInRound (hF.round l rfl) hd).bind fun _ _=>.pure trivial;unfold resolve;rw[hx];exact u_resolve (hρ x hxo) (lD hρ ha)
       ·rw[aj rfl];simp only[wk,List.cons_append,stepG.exec,hoi,hn,if_true,stepG.oper,Frame.oper?,hoc];rfl
      ·refine kM hS hw st (by simp) (s:=execOp (⟨fn,tmps,.inRegion ops (i::rest)::k,defers,.run,kind,roundOf⟩:Frame).eval o) (u_execOp hS.toSnd hρ hop) fun k' L w=>?_;rw[aj rfl];simp only[wk,List.cons_append,stepG.exec,hoi,hn,if_true,stepG.oper,Frame.oper?]
       cases roundOf with
       |none=>rfl
       |some l =>
        split
        ·rename_i e;exact absurd ⟨_,_,rfl,e⟩ hdr
        ·rfl
    ·obtain⟨k1,k2,k3⟩:=hF.finish (iD (E:=EV P A ok));refine .calm hw (fun k' L w=>?_) (st.swap k1 k2 k3);rw[aj rfl,←ik (by simp)];simp only[wk,List.cons_append,stepG.exec,hn];rfl
end
end Cl
namespace Cl
open Conc Co
section
variable {P:Program}{A:Nat→Prop}{ok:FuncId→Prop}
theorem oz{E:Ev}(hG:E.A P.globals.size)(F:Func){tmps:Array Value}(h:CA E tmps):U P E (results F tmps) (CV E):=by
 unfold results;refine(u_mapMA (Q:=CV E) _ fun r _=>?_).bind fun vs hv=>.pure ?_
 ·cases r with
  |tmp t=>exact .pure (h.getD t)
  |cell a t=>exact(u_asAddr hG (h.getD a)).bind fun ad had=>u_loadVar had
 ·split
  ·exact hv _ (Array.getElem_mem _)
  ·exact .tuple hv
section
variable {fr:Frame}{cs:List Frame}{tg:Target}{y0:Array Value}{w w':World}{es:Array Event}
theorem def_go{x:Next}(hb:tg≠.nil∨∀ch,fr.mode≠.panicking ch)(h:(invoke tg y0).runT P w #[]=(.ok x w',es))(hx:(∃v,x=.value v)∨x=.skip):callDeferred P fr cs none ⟨tg,y0⟩ w=.go (G fr cs) w' (seen P fr.fn es):=by
 unfold callDeferred
 rw[if_neg (fun e=>by
  rw[Bool.and_eq_true]at e;obtain⟨e1,e2⟩:=e;rcases hb with hb|hb
  ·cases tg<;>first|exact hb rfl|cases e1
  ·cases hm:fr.mode with
   |panicking ch=>exact hb ch hm
   |_=>rw[hm]at e2;cases e2)]
 rw[h]
 rcases hx with⟨v,rfl⟩|rfl<;>simp[GStep.after,G]
theorem def_enter{f:FuncId}{args:Array Value}(hb:tg≠.nil∨∀ch,fr.mode≠.panicking ch)(h:(invoke tg y0).runT P w #[]=(.ok (.enter f args) w',es)):callDeferred P fr cs none ⟨tg,y0⟩ w=.go (G (Frame.enter P f args .deferred) (fr::cs)) w' (seen P fr.fn es):=by
 unfold callDeferred
 rw[if_neg (fun e=>by
  rw[Bool.and_eq_true]at e;obtain⟨e1,e2⟩:=e;rcases hb with hb|hb
  ·cases tg<;>first|exact hb rfl|cases e1
  ·cases hm:fr.mode with
   |panicking ch=>exact hb ch hm
   |_=>rw[hm]at e2;cases e2)]
 rw[h];simp[GStep.after,G]
theorem def_round{l:Nat}{f:FuncId}{t:Array Value}{a b:Code}(hb:tg≠.nil∨∀ch,fr.mode≠.panicking ch)(h:(invoke tg y0).runT P w #[]=(.ok (.round l f t a b) w',es)):callDeferred P fr cs none ⟨tg,y0⟩ w=.go (G (Frame.round l f t a b .deferred) (fr::cs)) w' (seen P fr.fn es):=by
 unfold callDeferred
 rw[if_neg (fun e=>by
  rw[Bool.and_eq_true]at e;obtain⟨e1,e2⟩:=e;rcases hb with hb|hb
  ·cases tg<;>first|exact hb rfl|cases e1
  ·cases hm:fr.mode with
   |panicking ch=>exact hb ch hm
   |_=>rw[hm]at e2;cases e2)]
 rw[h];simp[GStep.after,G]
theorem def_panic{v:Value}(hb:tg≠.nil∨∀ch,fr.mode≠.panicking ch)(h:(invoke tg y0).runT P w #[]=(.halt (.panic v) w',es)):callDeferred P fr cs none ⟨tg,y0⟩ w=.go (G (fr.raise [{v,recovered:=false}]) cs) w' (seen P fr.fn es):=by
 unfold callDeferred
 rw[if_neg (fun e=>by
  rw[Bool.and_eq_true]at e;obtain⟨e1,e2⟩:=e;rcases hb with hb|hb
  ·cases tg<;>first|exact hb rfl|cases e1
  ·cases hm:fr.mode with
   |panicking ch=>exact hb ch hm
   |_=>rw[hm]at e2;cases e2)]
 rw[h];simp[GStep.after,G]
theorem def_bad{x:Halt}(hb:tg≠.nil∨∀ch,fr.mode≠.panicking ch)(h:(invoke tg y0).runT P w #[]=(.halt x w',es))(hx:∀ v,x≠.panic v)(hg:x≠.goexit):Bad (callDeferred P fr cs none ⟨tg,y0⟩ w):=by
 unfold callDeferred
 rw[if_neg (fun e=>by
  rw[Bool.and_eq_true]at e;obtain⟨e1,e2⟩:=e;rcases hb with hb|hb
  ·cases tg<;>first|exact hb rfl|cases e1
  ·cases hm:fr.mode with
   |panicking ch=>exact hb ch hm
   |_=>rw[hm]at e2;cases e2)]
 rw[h];refine Bad.after ?_ _
 cases x with
 |panic v=>exact absurd rfl (hx v)
 |goexit=>exact absurd rfl hg
 |blocked=>exact .inr ⟨_,_,_,rfl,.blocked rfl⟩
 |waiting=>exact .inr ⟨_,_,_,rfl,.waiting rfl⟩
 |exit c=>exact .inl ⟨_,_,_,rfl⟩
 |stuck s=>exact .inl ⟨_,_,_,rfl⟩
 |fatal m=>exact bad_fatal ..
 |throw m=>exact nK ..
 |unsupported u=>exact .inl ⟨_,_,_,rfl⟩
end
theorem out_def(hS:Snd2 P A ok){pc main:Bool}{fr:Frame}{frs:List Frame}{w:World}{dd:Deferred}{ds:List Deferred}{tg:Target}{y:Array Value}(hw:HC (EV P A ok) w)(st:StC P A ok fr frs)(hm:fr.mode≠.run)(hds:fr.defers=dd::ds)(hd:CD (EV P A ok) dd∨False)(hc:∀ r,dd.target≠.collected r)(he:dd=⟨tg,y⟩):Out P A ok pc main fr frs w:=by
 subst he;have hd:CD (EV P A ok) ⟨tg,y⟩:=hd.resolve_right id;have hF:=st.top
 have step0:∀ main k cs w,stepG P main (G (wk fr k) cs) w=unwind P main (wk fr k) cs none w:=fun main k cs w=>by
  cases h:fr.mode with
  |run=>exact absurd h hm
  |returning=>exact step_ret h
  |panicking ch=>exact step_pan h
 have hds':∀ x∈ds,CD (EV P A ok) x:=fun x hx=>hF.defers x (by rw[hds];exact List.mem_cons_of_mem _ hx);have hF':FrC P A ok {fr with defers:=ds}:=⟨hF.fn,hF.tmps,hF.todo,hds',hF.mode,hF.round,hF.kind⟩
 have e0:∀ k cs w,unwind P main (wk fr k) cs none w=callDeferred P (wk {fr with defers:=ds} k) cs none ⟨tg,y⟩ w:=fun k cs w=>by
  unfold unwind;rw[show(wk fr k).defers=⟨tg,y⟩::ds from hds]
  cases tg with
  |collected r=>exact absurd rfl (hc r)
  |_=>rfl
 by_cases hnil:tg=.nil∧∃ ch,fr.mode=.panicking ch
 ·obtain⟨rfl,ch,hch⟩:=hnil;refine .bad fun k c cs _=>?_;unfold gk;rw[step0,e0];unfold callDeferred;rw[if_pos (by rw[show(wk {fr with defers:=ds} (kt frs k)).mode=.panicking ch from hch];rfl)];exact .inl ⟨_,_,_,rfl⟩
 have hnb:∀ k,tg≠.nil∨∀ch,(wk {fr with defers:=ds} k).mode≠.panicking ch:=fun k=>by
  by_cases ht:tg=.nil
  ·exact .inr fun ch h=>hnil ⟨ht,ch,h⟩
  ·exact .inl ht
 have st':StC P A ok {fr with defers:=ds} frs:=st.swap hF' rfl rfl;rcases(u_invoke hS.toSnd (d:=⟨tg,y⟩) (.inl hd)).out hw with⟨a,w',es,n,ha,hc,fw,hev,l1,l2,l3⟩|⟨v,w',es,n,hv,hc,fw,hev,l1,l2,l3⟩|⟨x,w',es,h1,h2,h3⟩
 ·cases a with
  |value v=>exact .on (n:=n) ⟨l1,l2,fun k cs τ d _ ht=>by unfold gk;rw[step0,e0,def_go (hnb _) (l3 τ d ht) (.inl ⟨v,rfl⟩)];rfl⟩ st' hc fw (bZ hev)
  |skip=>exact .on (n:=n) ⟨l1,l2,fun k cs τ d _ ht=>by unfold gk;rw[step0,e0,def_go (hnb _) (l3 τ d ht) (.inr rfl)];rfl⟩ st' hc fw (bZ hev)
  |enter g args =>
   obtain⟨hg,hargs⟩:=ha;refine .on (n:=n) (frs':={fr with defers:=ds}::frs) ⟨l1,l2,fun k cs τ d _ ht=>by unfold gk;rw[step0,e0,def_enter (hnb _) (l3 τ d ht),push_k];rfl⟩ (st'.push ?_ fun e=>by cases e) hc fw (bZ hev);obtain⟨fn,f1,f2,f3⟩:=hS.fns g hg;refine⟨⟨fn,f1⟩,CA.append hargs (.replicate iD _),?_,fun d hd=>by simp[Frame.enter]at hd,fun ch e=>by simp[Frame.enter]at e,fun l e=>by simp[Frame.enter]at e,.inr rfl⟩;intro it hit;simp only[Frame.enter,f1,Option.bind_some,List.mem_singleton]at hit;subst hit;rcases f3 with⟨c,f4,f5⟩|⟨f4,-⟩
   ·rw[f4];exact .code f5
   ·rw[f4];exact .code trivial
  |round l g t a b =>
   obtain⟨hl,hg,ht',ha,hb⟩:=ha;refine .on (n:=n) (frs':={fr with defers:=ds}::frs) ⟨l1,l2,fun k cs τ d _ ht=>by unfold gk;rw[step0,e0,def_round (hnb _) (l3 τ d ht),push_k];rfl⟩ (st'.push ?_ fun e=>by cases e) hc fw (bZ hev);refine⟨hg,ht',?_,fun d hd=>by simp[Frame.round]at hd,fun ch e=>by simp[Frame.round]at e,fun m e=>by simp[Frame.round]at e;subst e;exact hl,.inr rfl⟩;intro it hit;simp only[Frame.round,List.mem_cons,List.not_mem_nil,or_false]at hit;rcases hit with rfl|rfl|rfl
   ·exact .code ha
   ·exact .beginRound
   ·exact .code hb
  |_=>exact ha.elim
 ·obtain⟨k1,k2,k3⟩:=hF'.raise (ch:=[{v,recovered:=false}]) fun e he=>by rw[List.mem_singleton]at he;subst he;exact hv
  exact .on (n:=n) ⟨l1,l2,fun k cs τ d _ ht=>by unfold gk;rw[step0,e0,def_panic (hnb _) (l3 τ d ht),raise_k];rfl⟩ (st'.swap k1 k2 k3) hc fw (bZ hev)
 ·exact .bad fun k c cs _=>by unfold gk;rw[step0,e0];exact def_bad (hnb _) h3 h1 h2
theorem out_unwind(hS:Snd2 P A ok){pc main:Bool}{fr:Frame}{frs:List Frame}{w:World}(hw:HC (EV P A ok) w)(st:StC P A ok fr frs)(hm:fr.mode≠.run):Out P A ok pc main fr frs w:=by
 have hF:=st.top
 have step0:∀ main k cs w,stepG P main (G (wk fr k) cs) w=unwind P main (wk fr k) cs none w:=fun main k cs w=>by
  cases h:fr.mode with
  |run=>exact absurd h hm
  |returning=>exact step_ret h
  |panicking ch=>exact step_pan h
 cases hds:fr.defers with
 |cons d ds =>
  have hd:=hF.defers d (by rw[hds];exact List.mem_cons_self ..);have hds':∀ x∈ds,CD (EV P A ok) x:=fun x hx=>hF.defers x (by rw[hds];exact List.mem_cons_of_mem _ hx);have hF':FrC P A ok {fr with defers:=ds}:=⟨hF.fn,hF.tmps,hF.todo,hds',hF.mode,hF.round,hF.kind⟩
  cases hd with
  |@mark r hr =>
   have e0:∀ k cs w,unwind P main (wk fr k) cs none w=(let (r,es):=(Instr.takeDeferred r).runT P w #[]
    GStep.after (seen P fr.fn es) <| match r with
    |.ok calls w=>.go (G (wk {fr with defers:=calls++ds} k) cs) w
    |.halt _ w=>.ended (.stuck "the deferred calls of a range-over-func loop have been taken" ((wk fr k).pos P)) w):=fun k cs w=>by
    unfold unwind;rw[show(wk fr k).defers=_ from hds];rfl
   rcases(u_takeDeferred (P:=P) (E:=EV P A ok) hr).out hw with⟨l,w',es,n,hl,hc,fw,hev,l1,l2,l3⟩|⟨v,w',es,n,hv,hc,fw,hev,l1,l2,l3⟩|⟨x,w',es,h1,h2,h3⟩
   ·refine .on (n:=n) (w':=w') (es:=seen P fr.fn es) (fr':={fr with defers:=l++ds}) (frs':=frs) ⟨l1,l2,fun k cs τ d _ ht=>?_⟩ (st.swap ⟨hF.fn,hF.tmps,hF.todo,fun x hx=>?_,hF.mode,hF.round,hF.kind⟩ rfl rfl) hc fw (bZ hev)
    ·unfold gk;rw[step0,e0,l3 τ d ht];simp only[GStep.after,Array.append_empty]
    ·rcases List.mem_append.1 hx with hx|hx
     ·exact hl x hx
     ·exact hds' x hx
   ·refine .bad fun k c cs _=>?_;have:=l3 w.tape w.drawn fun _ _=>rfl;rw[bQ]at this;unfold gk;rw[step0,e0,this];exact .inl ⟨_,_,_,rfl⟩
   ·refine .bad fun k c cs _=>?_;unfold gk;rw[step0,e0,h3];exact .inl ⟨_,_,_,rfl⟩
  |@nil y=>exact out_def hS hw st hm hds (.inl .nil) (fun r=>by simp) rfl
  |@yield l x y hl hy=>exact out_def hS hw st hm hds (.inl (.yield hl hy)) (fun r=>by simp) rfl
  |@fn f x y hf hx hy=>exact out_def hS hw st hm hds (.inl (.fn hf hx hy)) (fun r=>by simp) rfl
 |nil =>
  obtain⟨F,f1⟩:=hF.fn;have hdk:∀ k,(wk fr k).defers=[]:=fun _=>hds;have hf1:∀ k,P.funcs[(wk fr k).fn]? = some F:=fun _=>f1
  cases hmo:fr.mode with
  |run=>exact absurd hmo hm
  |panicking ch =>
   have hcat:∀ k,(wk fr k).catches P=false:=fun k=>by simp[Frame.catches,hf1 k]
   have hmk:∀ k,(wk fr k).mode=.panicking ch:=fun _=>hmo
   cases frs with
   |nil =>
    refine .throw (ch:=ch) rfl (fun k c cs τ d=>?_) hmo;rw[step0];simp only[unwind,hdk,hmk,hcat,Bool.false_eq_true,if_false];rfl
   |cons f frs =>
    obtain⟨k1,k2,k3⟩:=st.pop.top.raise (ch:=ch) (hF.mode ch hmo)
    refine .on (n:=0) (w':=w) (es:=#[]) (fr':=f.raise ch) (frs':=frs) ⟨rfl,rfl,fun k cs τ d _ _=>?_⟩ (st.pop.swap k1 k2 k3) hw (.refl w) fun e he=>by simp at he
    show stepG P main (G (wk fr []) (wk f (kt frs k)::(addK frs k++cs))) _=_;rw[step0];simp only[unwind,hdk,hmk,hcat,Bool.false_eq_true,if_false];rw[raise_k];rfl
  |returning =>
   have e0:∀ main k cs w,unwind P main (wk fr k) cs none w=(let (r,es):=(results F fr.tmps).runT P w #[]
    GStep.after (seen P fr.fn es) <| match r with
    |.ok v w=>doReturn P main (wk fr k) cs none v w
    |.halt (.stuck s) w=>.ended (.stuck s ((wk fr k).pos P)) w
    |.halt _ w=>.ended (.stuck "return: the result variables cannot be read" ((wk fr k).pos P)) w):=fun main k cs w=>by
    unfold unwind;rw[hdk,show(wk fr k).mode=.returning from hmo];simp only[hf1];rfl
   rcases(oz (P:=P) (E:=EV P A ok) hS.types F hF.tmps).out hw with⟨v,w',es,n,hv,hc,fw,hev,l1,l2,l3⟩|⟨v,w',es,n,hv,hc,fw,hev,l1,l2,l3⟩|⟨x,w',es,h1,h2,h3⟩
   ·cases frs with
    |nil =>
     have hk:=st.bot.1;refine .leave (v:=v) (w':=w') (es:=seen P fr.fn es) (n:=n) rfl l1 l2 (fun k c cs τ d ht=>?_) (fun hi k τ d ht=>?_) hv hc fw (bZ hev) ⟨hmo,hds⟩
     ·rw[step0,e0,l3 τ d ht];simp only[doReturn,show(wk fr k).kind=.normal from hk,GStep.after,Array.append_empty];rfl
     ·rw[step0,e0,l3 τ d ht];simp only[doReturn,show(wk fr k).kind=.normal from hk,GStep.after,Array.append_empty,show P.inits.idxOf? (wk fr k).fn=none from hi,Bool.not_true,Bool.false_eq_true,if_false]
    |cons f frs =>
     have hf:=st.pop.top;rcases st.top.kind with hk|hk
     ·obtain⟨k1,k2,k3⟩:=hf.finish hv;refine .on (n:=n) (es:=seen P fr.fn es) (fr':=f.finish v) (frs':=frs) ⟨l1,l2,fun k cs τ d _ ht=>?_⟩ (st.pop.swap k1 k2 k3) hc fw (bZ hev);show stepG P main (G (wk fr []) (wk f (kt frs k)::(addK frs k++cs))) _=_;rw[step0,e0,l3 τ d ht];simp only[GStep.after,back_norm hk (st.ne.1 hk),Array.append_empty];rfl
     ·obtain⟨f',k2,k3,k4,k5⟩:=back_def hk hf;refine .on (n:=n) (es:=seen P fr.fn es) (fr':=f') (frs':=frs) ⟨l1,l2,fun k cs τ d _ ht=>?_⟩ (st.pop.swap k2 k3 k4) hc fw (bZ hev);show stepG P main (G (wk fr []) (wk f (kt frs k)::(addK frs k++cs))) _=_;rw[step0,e0,l3 τ d ht];simp only[GStep.after,k5,Array.append_empty];rfl
   ·refine .bad fun k c cs _=>?_;have:=l3 w.tape w.drawn fun _ _=>rfl;rw[bQ]at this;unfold gk;rw[step0,e0,this];exact .inl ⟨_,_,_,rfl⟩
   ·refine .bad fun k c cs _=>?_;unfold gk;rw[step0,e0,h3];cases x<;>exact .inl ⟨_,_,_,rfl⟩
theorem out_step(hS:Snd2 P A ok){pc main:Bool}{fr:Frame}{frs:List Frame}{w:World}(hw:HC (EV P A ok) w)(st:StC P A ok fr frs):Out P A ok pc main fr frs w:=by
 by_cases hm:fr.mode=.run
 ·exact out_exec hS hw st hm
 ·exact out_unwind hS hw st hm
end
end Cl
namespace Co
section
variable {S T:Type}(Stp:S→(Nat→T)→S→Nat→Prop)(Good:S→Prop)
def aW(n:Nat)(τ:Nat→T):Nat→T:=fun i=>τ (n+i)
inductive Reach:S→(Nat→T)→Prop
 |good {s:S} {τ:Nat→T} (h:Good s):Reach s τ
 |step {s s':S} {τ:Nat→T} {n:Nat} (h:Stp s τ s' n) (hr:Reach s' (aW n τ)):Reach s τ
inductive Tre:S→Prop
 |good {s:S} (h:Good s):Tre s
 |node {s:S} (nx:(Nat→T)→S) (nn:(Nat→T)→Nat) (h:∀ τ,Stp s τ (nx τ) (nn τ)) (ht:∀ τ,Tre (nx τ)):Tre s
variable {Stp Good}
theorem glue(loc:∀ s τ τ' s' n,Stp s τ s' n→(∀i,i<n→τ' i=τ i)→Stp s τ' s' n)(det:∀ s τ s1 n1 s2 n2,Stp s τ s1 n1→Stp s τ s2 n2→s1=s2∧n1=n2){s:S}(τe:Nat→T)(h:∀ τ,Reach Stp Good s τ):Tre Stp Good s:=by
 apply Classical.byContradiction
 intro hT
 have next:∀ s:S,(¬Tre Stp Good s∧∀ τ,Reach Stp Good s τ)→∃ (s':S) (n:Nat) (τ:Nat→T),Stp s τ s' n∧(¬Tre Stp Good s'∧∀ τ,Reach Stp Good s' τ)∧¬ Good s:=by
  rintro s ⟨h1,h2⟩;have hg:¬ Good s:=fun hg=>h1 (.good hg)
  have:∃ τ,∀s' n,Stp s τ s' n→¬ Tre Stp Good s':=by
   apply Classical.byContradiction
   intro hn
   have hn2:∀ τ,∃s' n,Stp s τ s' n∧Tre Stp Good s':=fun τ=>by
    apply Classical.byContradiction
    intro h3;exact hn ⟨τ,fun s' n h4 h5=>h3 ⟨s',n,h4,h5⟩⟩
   exact h1 (.node (fun τ=>(hn2 τ).choose) (fun τ=>(hn2 τ).choose_spec.choose) (fun τ=>(hn2 τ).choose_spec.choose_spec.1) fun τ=>(hn2 τ).choose_spec.choose_spec.2)
  obtain⟨τ0,h3⟩:=this
  cases h2 τ0 with
  |good h=>exact absurd h hg
  |@step _ s' _ n hs _ =>
   refine⟨s',n,τ0,hs,⟨h3 s' n hs,fun τ=>?_⟩,hg⟩
   obtain⟨τg,hτg⟩:∃ τg:Nat→T,τg=fun i=>if i<n then τ0 i else τ (i-n):=⟨_,rfl⟩
   have hs2:Stp s τg s' n:=loc _ _ _ _ _ hs fun i hi=>by rw[hτg];exact if_pos hi
   have e:aW n τg=τ:=by
    funext i
    rw[hτg];simp only[aW];rw[if_neg (by omega),show n+i-n=i by omega]
   cases h2 τg with
   |good h=>exact absurd h hg
   |step hs3 hr =>
    obtain⟨rfl,rfl⟩:=det _ _ _ _ _ _ hs2 hs3;rwa[e]at hr
 have next2:∀ p:{s:S // ¬Tre Stp Good s∧∀ τ,Reach Stp Good s τ},∃q:{s:S // ¬Tre Stp Good s∧∀ τ,Reach Stp Good s τ},∃(n:Nat) (τ:Nat→T),Stp p.1 τ q.1 n∧¬ Good p.1:=fun p=>by
  obtain⟨s',n,τ,h1,h2,h3⟩:=next p.1 p.2;exact⟨⟨s',h2⟩,n,τ,h1,h3⟩
 obtain⟨nx,hnx⟩:=Classical.axiomOfChoice next2;obtain⟨nn,hnn⟩:=Classical.axiomOfChoice hnx;obtain⟨nt,hnt⟩:=Classical.axiomOfChoice hnn;obtain⟨sq,hsq⟩:∃ sq:Nat→{s:S // ¬Tre Stp Good s∧∀ τ,Reach Stp Good s τ},sq=fun k=>Nat.rec (motive:=fun _=>{s:S // ¬Tre Stp Good s∧∀ τ,Reach Stp Good s τ}) ⟨s,hT,h⟩ (fun _ p=>nx p) k:=⟨_,rfl⟩
 have hs:∀ k,sq (k+1)=nx (sq k):=fun k=>by rw[hsq]
 obtain⟨M,hM⟩:∃ M:Nat→Nat,M=fun k=>Nat.rec (motive:=fun _=>Nat) 0 (fun j m=>m+nn (sq j)) k:=⟨_,rfl⟩
 have hM1:∀ k,M (k+1)=M k+nn (sq k):=fun k=>by rw[hM]
 have mono:∀ k j,M k≤M (k+j):=fun k j=>by
  induction j with
  |zero=>exact Nat.le_refl _
  |succ j ih=>rw[←Nat.add_assoc,hM1];omega
 have uniq:∀ k i k' i',i<nn (sq k)→i'<nn (sq k')→M k+i=M k'+i'→k=k'∧i=i':=fun k i k' i' h1 h2 e=>by
  rcases Nat.lt_trichotomy k k' with hlt|rfl|hlt
  ·obtain⟨j,rfl⟩:=Nat.exists_eq_add_of_lt hlt;have:=mono (k+1) j;rw[hM1,show k+1+j=k+j+1 by omega]at this;omega
  ·exact⟨rfl,by omega⟩
  ·obtain⟨j,rfl⟩:=Nat.exists_eq_add_of_lt hlt;have:=mono (k'+1) j;rw[hM1,show k'+1+j=k'+j+1 by omega]at this;omega
 have:∀ j,∃x:T,∀k i,i<nn (sq k)→M k+i=j→x=nt (sq k) i:=fun j=>by
  by_cases hj:∃ k i,i<nn (sq k)∧M k+i=j
  ·obtain⟨k,i,h1,h2⟩:=hj;refine⟨nt (sq k) i,fun k' i' h3 h4=>?_⟩;obtain⟨rfl,rfl⟩:=uniq k i k' i' h1 h3 (by omega);rfl
  ·exact⟨τe 0,fun k i h1 h2=>absurd ⟨k,i,h1,h2⟩ hj⟩
 obtain⟨L,hL⟩:=Classical.axiomOfChoice this
 have key:∀ s' τ,Reach Stp Good s' τ→∀ k,s'=(sq k).1→τ=aW (M k) L→False:=by
  intro s' τ hr
  induction hr with
  |good hg =>
   intro k e _;subst e;exact(hnt (sq k)).2 hg
  |@step s1 s2 τ1 n hst _ ih =>
   intro k e1 e2;subst e1 e2;have h1:=(hnt (sq k)).1;have h2:Stp (sq k).1 (aW (M k) L) (nx (sq k)).1 (nn (sq k)):=loc _ _ _ _ _ h1 fun i hi=>hL _ k i hi rfl;obtain⟨rfl,rfl⟩:=det _ _ _ _ _ _ hst h2;refine ih (k+1) (by rw[hs]) ?_
   funext i
   simp only[aW,hM1,Nat.add_assoc]
 refine key s (aW (M 0) L) (h _) 0 ?_ rfl;subst hsq;rfl
end
abbrev Tp:=Nat→Question→Nat
def z0:Tp:=fun _ _=>0
end Co
namespace Co
open Conc
variable {P:Program}{E:Env}{f:Fm}
theorem WR.re{w w':World}(h:WR E f w w')(τ:Nat→Question→Nat)(d:Nat):WR E f (Co.re w τ d) (Co.re w' τ d):=⟨rfl,rfl,h.obj,h.inj,h.ice,h.fresh,h.glob,h.gl,h.big⟩
theorem finish_fine{y:Fs}(hk:bT P E y.todo)(v:Value)(cs:List Frame):Fine (G (y.fr.finish v) cs):=by
 by_cases h:∃ ops i rest k,y.todo=.inRegion ops (i::rest)::k
 ·obtain⟨ops,i,rest,k,e⟩:=h;rw[dW e];exact gy _ _
 ·rw[jk hk fun ops i rest k e=>h ⟨ops,i,rest,k,e⟩];exact gy _ _
theorem leave_halt{main:Bool}{fn:FuncId}{tmps:Array Value}{todo:List Item}{F:Func}{cs:List Frame}{w w3:World}{y:Halt}(hF:P.funcs[fn]? = some F)(hr:(results F tmps).run P w=.halt y w3) :
 ∃o w2 es,stepG P main (G (fr fn tmps todo .returning) cs) w=.ended o w2 es:=by
 have hf:=Sem.runT_fst P (results F tmps) w #[];simp only[G,stepG,unwind,fr,hF];generalize hr':(results F tmps).runT P w #[]=r at hf;obtain⟨r,e⟩:=r
 dsimp only at hf
 rw[hr]at hf;subst hf
 cases y<;>exact⟨_,_,_,rfl⟩
theorem step_kind(hS:Sound P E){x x':Fs}{xs xs':List Fs}{cs:List Frame}{w w':World}(hr:SR E f (x::xs) (x'::xs'))(ok:∀ z∈x::xs,OkS P E z)(hx:x.ret=true→xs≠[])(hw:WR E f w w') :
 Kinds x (xs.map Fs.fr++cs) (stepG P true (St x xs cs) w):=by
 obtain⟨⟨e1,e2,e3,ha⟩,hs⟩:=hr.inv;have hok:=ok x (List.mem_cons_self ..);obtain⟨fn,tmps,todo,ret⟩:=x
 dsimp only at ha hok hx
 obtain⟨hk,F,hF⟩:=hok
 cases ret with
 |false =>
  have e0:St ⟨fn,tmps,todo,false⟩ xs cs=G (fr fn tmps todo .run) (xs.map Fs.fr++cs):=rfl;rw[e0];rcases todo_kind (main:=true) (w:=w) (cs:=xs.map Fs.fr++cs) hk with⟨k',m,hm⟩|⟨id,ops,k',rfl⟩|⟨ops,i,rest,k',rfl⟩|h
  ·obtain⟨r,rfl⟩:=mute_mode hm;exact .fine (jc hm) (gy ⟨fn,tmps,k',r⟩ _)
  ·exact .fine je (gy ⟨fn,tmps,_,false⟩ _)
  ·by_cases hn:((ops[i]?).map (Region.wanted · (yielded ops tmps))).getD false=false
   ·exact .fine (fJ hn) (gy ⟨fn,_,_,false⟩ _)
   ·obtain⟨o,ho,hwt⟩:∃ o,ops[i]? = some o∧Region.wanted o (yielded ops tmps)=true:=by
     cases ho:ops[i]? with
     |none=>rw[ho]at hn;exact absurd rfl hn
     |some o =>
      rw[ho]at hn;exact⟨o,rfl,by simpa using hn⟩
    have hop:OkOp P E o.op:=hk.head o (Array.mem_of_getElem? ho);have e1:fr fn tmps (.inRegion ops (i::rest)::k') .run=(base fn).at ⟨tmps,[]⟩ (.inRegion ops (i::rest)::k'):=rfl
    have hkind:(base fn).kind≠.early:=by simp[base]
    cases hrun:(execOp (Act.eval ⟨tmps,[]⟩) o).run P w with
    |halt y w3 =>
     rw[e1,stepG_oper ho hwt];exact halt_kind hS (x:=⟨fn,tmps,.inRegion ops (i::rest)::k',false⟩) hrun
    |ok n w3 =>
     have hrel:=op_rel (f:=f) hS.glob (fr:=(base fn).at ⟨tmps,[]⟩ (.inRegion ops (i::rest)::k')) (fr':=(base fn).at ⟨x'.tmps,[]⟩ (.inRegion ops (i::rest)::k')) ha hop;rw[Frame.eval_at',Frame.eval_at']at hrel;obtain⟨g,b,w2',new,r1,r2,r3,r4,r5,r6⟩:=hrel f f.le_refl w w' hw n w3 hrun;rw[e1]
     cases r3 with
     |value hv =>
      refine .fine (stepG_value (k:=k') (rest:=rest) ho hwt hkind hrun) ?_;rw[fr_at _ _ _ (put_defers _)];exact gy ⟨fn,_,_,false⟩ _
     |skip =>
      refine .fine (stepG_none (k:=k') (rest:=rest) ho hwt hkind hrun) ?_;rw[fr_at _ _ _ (put_defers _)];exact gy ⟨fn,_,_,false⟩ _
     |@enter j args args' hj hargs =>
      obtain⟨F,c,hF,hb,hc0⟩:=hS.body j hj;refine .fine (stepG_enter (k:=k') (rest:=rest) ho hwt hkind hrun) ?_;rw[enter_at args hF hb];exact gy ⟨j,_,_,false⟩ _
  ·exact .inl h
 |true =>
  cases xs with
  |nil=>exact absurd rfl (hx rfl)
  |cons y ys =>
   have e0:St ⟨fn,tmps,todo,true⟩ (y::ys) cs=G (fr fn tmps todo .returning) (y.fr::(ys.map Fs.fr++cs)):=rfl;rw[e0]
   cases hrun:(results F tmps).run P w with
   |halt z w3=>exact .inl (leave_halt hF hrun)
   |ok v w3 =>
    exact .fine (leave_step hF (Prod.ext (by rw[Sem.runT_fst];exact hrun) rfl)) (finish_fine (ok y (by simp)).1 v _)
structure Ls where
 x:Fs
 xs:List Fs
 w:World
def Ls.g(P:Program)(s:Ls):Goroutine:=St s.x s.xs [c0 P]
def Ls.re(s:Ls)(τ:Nat→Question→Nat):Ls:=⟨s.x,s.xs,Co.re s.w τ s.w.drawn⟩
def Ls.under(s:Ls):Prop:=s.x.ret=true→s.xs≠[]
def Ok1(P:Program)(E:Env)(s:Ls):Prop:=(∀z∈s.x::s.xs,OkS P E z)∧∃ f x' xs' w',SR E f (s.x::s.xs) (x'::xs')∧WR E f s.w w'
theorem Ok1.re{s:Ls}(h:Ok1 P E s)(τ:Nat→Question→Nat):Ok1 P E (s.re τ):=⟨h.1,let ⟨f,x',xs',w',h1,h2⟩:=h.2;⟨f,x',xs',_,h1,h2.re τ s.w.drawn⟩⟩
theorem fine_g(s:Ls):Fine (s.g P):=gy _ _
theorem ls_step(hS:Sound P E){s:Ls}(h:Ok1 P E s)(hx:s.under){g2:Goroutine}{w2:World}{es:Array Event}(hs:stepG P true (s.g P) s.w=.go g2 w2 es)(hf:Fine g2) :
 ∃s':Ls,g2=s'.g P∧w2=s'.w∧Ok1 P E s'∧LocG P true (s.g P) s.w g2 w2:=by
 obtain⟨ok,f,x',xs',w',hr,hw⟩:=h;obtain⟨⟨g,y,ys,y',ys',w2',es',rfl,hr2,ok2,-,-,hw2,-⟩,hloc⟩:=step_rel hS (main':=true) (cs':=[]) hr ok hx hw hs hf.1 hf.2.1 hf.2.2;exact⟨⟨y,ys,w2⟩,rfl,rfl,⟨ok2,g,y',ys',w2',hr2,hw2⟩,hloc⟩
theorem fr_inj{x y:Fs}(h:x.fr=y.fr):x=y:=by
 obtain⟨f1,t1,k1,r1⟩:=x;obtain⟨f2,t2,k2,r2⟩:=y;simp only[Fs.fr,fr,Frame.mk.injEq]at h;obtain⟨rfl,rfl,rfl,-,hm,-⟩:=h
 cases r1<;>cases r2<;>first|rfl|(exact absurd hm (by simp))
theorem frs_inj:∀ {xs ys:List Fs} {cs:List Frame},xs.map Fs.fr++cs=ys.map Fs.fr++cs→xs=ys:=by
 intro xs ys cs h;have h:=List.append_cancel_right h;exact(List.map_inj_right (fun _ _ e=>fr_inj e)).1 h
theorem g_inj{s s':Ls}(h:s.g P=s'.g P):s.x=s'.x∧s.xs=s'.xs:=by
 simp only[Ls.g,St,G,Goroutine.mk.injEq]at h;exact⟨fr_inj h.1,frs_inj h.2.1⟩
theorem ls_eq{s s':Ls}(h:s.g P=s'.g P)(hw:s.w=s'.w):s=s':=by
 obtain⟨h1,h2⟩:=g_inj h;obtain⟨x,xs,w⟩:=s;obtain⟨x',xs',w'⟩:=s'
 dsimp only at h1 h2 hw
 subst h1 h2 hw;rfl
theorem no_row:Extern.next "fmt's door"=none:=by
 have h:(Extern.next "fmt's door").isNone=true:=by decide +kernel
 exact Option.isNone_iff_eq_none.1 h
theorem door_ends{v:Value}{w:World}:∃ o es,stepG P true (G ((c0 P).finish v) []) w=.ended o w es:=by
 simp[G,stepG,stepG.exec,c0,Frame.finish,no_row]
def StpL(P:Program)(E:Env)(s:Ls)(τ:Tp)(s':Ls)(n:Nat):Prop :=
 s.under∧Ok1 P E s'∧∃ w2 es,stepG P true (s.g P) (Co.re s.w τ 0)=.go (s'.g P) w2 es∧s'.w=Co.re w2 z0 0∧w2.drawn=n∧∀ τ' d',(∀i,i<n→τ' (d'+i)=τ i)→∃ es',stepG P true (s.g P) (Co.re s.w τ' d')=.go (s'.g P) (Co.re w2 τ' (d'+n)) es'
theorem stpL_loc(s:Ls)(τ τ':Tp)(s':Ls)(n:Nat)(h:StpL P E s τ s' n)(ht:∀ i,i<n→τ' i=τ i):StpL P E s τ' s' n:=by
 obtain⟨h1,h2,w2,es,h3,h4,h5,h6⟩:=h
 obtain⟨es',h7⟩:=h6 τ' 0 fun i hi=>by rw[Nat.zero_add];exact ht i hi
 refine⟨h1,h2,_,es',h7,h4,Nat.zero_add n,fun τ2 d2 h8=>?_⟩;obtain⟨es2,h9⟩:=h6 τ2 d2 fun i hi=>(h8 i hi).trans (ht i hi);exact⟨es2,h9⟩
theorem stpL_det(s:Ls)(τ:Tp)(s1:Ls)(n1:Nat)(s2:Ls)(n2:Nat)(h:StpL P E s τ s1 n1)(k:StpL P E s τ s2 n2):s1=s2∧n1=n2:=by
 obtain⟨-,-,w1,es1,h3,h4,h5,-⟩:=h;obtain⟨-,-,w2,es2,k3,k4,k5,-⟩:=k;rw[h3]at k3;injection k3 with e1 e2 e3;subst e2;exact⟨ls_eq e1 (h4.trans k4.symm),h5.symm.trans k5⟩
def ComesL(P:Program)(Good:Ls→Prop)(s:Ls)(τ:Tp)(d M:Nat):Prop:=∃ (fr:Frame) (we:World),runN P M (single (s.g P) (Co.re s.w τ d))=.next (lone fr [c0 P] we)∧(∀c,fr.mode≠.panicking c)∧∀ x:Fs,x.fr=fr→∀ τ' d',Good ⟨x,[],Co.re we τ' d'⟩
theorem reachL(hS:Sound P E){Good:Ls→Prop}:∀ (M:Nat) (s:Ls) (τ:Tp) (d:Nat),Ok1 P E s→ComesL P Good s τ d M→Reach (StpL P E) Good s (aW d τ):=by
 intro M
 induction M with
 |zero =>
  rintro s τ d hs ⟨e,we,h1,hm,h2⟩;simp only[runN,Stepped.next.injEq,df]at h1;obtain⟨hg,rfl⟩:=dF h1;simp only[Ls.g,St,G,Goroutine.mk.injEq]at hg;obtain⟨hg1,hg2,-⟩:=hg
  have hxs:s.xs=[]:=by
   cases hxs:s.xs with
   |nil=>rfl
   |cons y ys =>
    rw[hxs]at hg2;have:=congrArg List.length hg2;simp at this
  have:=h2 s.x hg1 s.w.tape s.w.drawn;rw[←hxs]at this;exact .good this
 |succ M ih =>
  rintro s τ d hs ⟨e,we,h1,hm,h2⟩;simp only[runN]at h1;by_cases hx:s.under
  ·obtain⟨ok,f,x',xs',w',hrr,hw⟩:=hs;have hw':WR E f (Co.re s.w τ d) (Co.re w' τ d):=WR.re hw τ d;rcases step_kind hS (cs:=[c0 P]) hrr ok hx hw' with⟨o,w3,es,he⟩|⟨g2,w3,es,he,hk⟩
   ·rw[bD (g:=s.g P) (fine_g _).1 he]at h1;cases h1
   ·rw[bH (g:=s.g P) (fine_g _).1 he]at h1;simp only at h1;rcases hk with hf|hd|⟨ch,hpan⟩
    ·have hs':Ok1 P E ⟨s.x,s.xs,Co.re s.w τ d⟩:=⟨ok,f,x',xs',_,hrr,hw'⟩;obtain⟨s1,rfl,rfl,ok1,m,q1,q2,q3⟩:=ls_step hS (s:=⟨s.x,s.xs,Co.re s.w τ d⟩) hs' hx he hf;simp only[eu,jW]at q1 q2 q3;have q3':∀ τ' d',(∀i,i<m→τ' (d'+i)=aW d τ i)→∃ es',stepG P true (s.g P) (Co.re s.w τ' d')=.go (s1.g P) (Co.re s1.w τ' (d'+m)) es':=fun τ' d' h=>q3 τ' d' h
     obtain⟨es0,h0⟩:=q3' (aW d τ) 0 fun i hi=>by rw[Nat.zero_add]
     have ok2:Ok1 P E ⟨s1.x,s1.xs,Co.re s1.w z0 0⟩:=by
      obtain⟨o1,f1,y',ys',v',r1,r2⟩:=ok1;exact⟨o1,f1,y',ys',_,r1,r2.re z0 0⟩
     have hst:StpL P E s (aW d τ) ⟨s1.x,s1.xs,Co.re s1.w z0 0⟩ m:=⟨hx,ok2,_,es0,h0,rfl,Nat.zero_add m,q3'⟩;refine .step hst ?_;have:=ih ⟨s1.x,s1.xs,Co.re s1.w z0 0⟩ τ (d+m) ok2 ⟨e,we,?_,hm,h2⟩
     ·rw[show aW m (aW d τ)=aW (d+m) τ from by funext i;simp[aW,Nat.add_assoc]];exact this
     ·have e1:Co.re (Co.re s1.w z0 0) τ (d+m)=s1.w:=by
       rw[←q1,←q2];rfl
      dsimp only
      rw[e1];exact h1
    ·exfalso;exact absurd h1 (jE hd _ _ _)
    ·subst hpan;exfalso;exact absurd h1 (pan_never _ _ ch w3 M (fun z hz=>(ok z hz).2) e [c0 P] we hm)
  ·exfalso
   have hret:s.x.ret=true:=by
    cases h:s.x.ret with
    |true=>rfl
    |false=>exact absurd (fun h'=>by rw[h]at h';cases h') hx
   have hxs:s.xs=[]:=Classical.byContradiction fun hn=>hx fun _=>hn;obtain⟨ok,-⟩:=hs;obtain⟨F1,hF1⟩:=(ok s.x (List.mem_cons_self ..)).2;obtain⟨⟨fn,tmps,todo,ret⟩,xs,w⟩:=s
   dsimp only at hret hxs hF1 h1
   subst hret hxs;have e0:Ls.g P ⟨⟨fn,tmps,todo,true⟩,[],w⟩=G (Co.fr fn tmps todo .returning) (c0 P::[]):=rfl;rw[e0]at h1
   cases hrun:(results F1 tmps).run P (Co.re w τ d) with
   |halt z w3 =>
    obtain⟨o,w4,es,he⟩:=leave_halt (main:=true) (todo:=todo) (cs:=[c0 P]) hF1 hrun;rw[bD rfl he]at h1;cases h1
   |ok u w3 =>
    have he:=leave_step (main:=true) (todo:=todo) (c:=c0 P) (cs:=[]) hF1 (Prod.ext (by rw[Sem.runT_fst];exact hrun) rfl);rw[bH rfl he]at h1;simp only at h1
    cases M with
    |zero =>
     simp only[runN,Stepped.next.injEq,df]at h1;obtain⟨hg,-⟩:=dF h1;simp[G]at hg
    |succ M =>
     simp only[runN]at h1;obtain⟨o,es,he⟩:=door_ends (P:=P) (v:=u) (w:=w3);rw[bD rfl he]at h1;cases h1
theorem treeL(hS:Sound P E){Good:Ls→Prop}{s:Ls}(hs:Ok1 P E s)(h:∀ τ,∃M,ComesL P Good s τ 0 M):Tre (StpL P E) Good s:=by
 refine glue stpL_loc stpL_det z0 fun τ=>?_;obtain⟨M,hM⟩:=h τ;have:=reachL hS M s τ 0 hs hM;rwa[show aW 0 τ=τ from by funext i;simp[aW]]at this
end Co
namespace Cl
open Conc Co
structure Cs where
 fr:Frame
 frs:List Frame
 w:World
section
variable {P:Program}{A:Nat→Prop}{ok:FuncId→Prop}{main:Bool}
theorem HC.re{E:Ev}{w:World}(h:HC E w)(τ:Tp)(d:Nat):HC E (re w τ d):=⟨h.obj,h.top⟩
structure Fine1(P:Program)(A:Nat→Prop)(ok:FuncId→Prop)(s:Cs):Prop where
 st:StC P A ok s.fr s.frs
 hc:HC (EV P A ok) s.w
theorem wk_nil(fr:Frame):wk fr []=fr:=by simp[wk]
theorem addK_nil:∀ frs:List Frame,addK frs []=frs
 |[]=>rfl
 |f::frs=>by
  have:kt frs []=[]:=by cases frs<;>rfl
  rw[addK,this,wk_nil,addK_nil frs]
theorem gk_nil(fr:Frame)(frs cs:List Frame):gk fr frs [] cs=G fr (frs++cs):=by
 have:kt frs []=[]:=by cases frs<;>rfl
 rw[gk,this,wk_nil,addK_nil]
def StpC(P:Program)(A:Nat→Prop)(ok:FuncId→Prop)(pc main:Bool)(s:Cs)(τ:Tp)(s':Cs)(n:Nat):Prop :=
 ∃w2 es,OnTo P pc main s.fr s.frs (re s.w τ 0) s'.fr s'.frs w2 es n∧s'.w=re w2 z0 0∧Fine1 P A ok s'∧Fw (EV P A ok) s.w s'.w∧∀ e∈es,EvA (EV P A ok) s'.w.heap.size e
variable {pc:Bool}
theorem OnTo.rebase{fr fr':Frame}{frs frs':List Frame}{w w2:World}{τ τ':Tp}{d d' n:Nat}{es:Array Event}(h:OnTo P pc main fr frs (re w τ d) fr' frs' w2 es n)(ht:∀ i,i<n→τ' (d'+i)=τ (d+i)):OnTo P pc main fr frs (re w τ' d') fr' frs' (re w2 τ' (d'+n)) es n :=
 ⟨rfl,rfl,fun k cs τ2 d2 hk hag=>by
  have:=h.step k cs τ2 d2 hk fun i hi=>by
   rw[hag i hi];exact ht i hi
  exact this⟩
theorem stp_loc(s:Cs)(τ τ':Tp)(s':Cs)(n:Nat)(h:StpC P A ok pc main s τ s' n)(ht:∀ i,i<n→τ' i=τ i):StpC P A ok pc main s τ' s' n:=by
 obtain⟨w2,es,h1,h2,h3,h4,h5⟩:=h;exact⟨_,es,h1.rebase (τ':=τ') (d':=0) fun i hi=>by rw[Nat.zero_add];exact ht i hi,h2,h3,h4,h5⟩
theorem go_inj{g g':Goroutine}{w w':World}{es es':Array Event}(h:GStep.go g w es=.go g' w' es'):g=g'∧w=w':=by
 injection h with a b c;exact⟨a,b⟩
theorem stp_det(s:Cs)(τ:Tp)(s1:Cs)(n1:Nat)(s2:Cs)(n2:Nat)(h:StpC P A ok pc main s τ s1 n1)(k:StpC P A ok pc main s τ s2 n2):s1=s2∧n1=n2:=by
 obtain⟨w1,es1,h1,h2,-⟩:=h;obtain⟨w2,es2,k1,k2,-⟩:=k;have a:=h1.step [] [] τ 0 (fun _=>rfl) fun _ _=>rfl;have b:=k1.step [] [] τ 0 (fun _=>rfl) fun _ _=>rfl;rw[a]at b;obtain⟨e1,e2⟩:=go_inj b;simp only[gk_nil,G,Goroutine.mk.injEq,List.append_nil]at e1;have e3:=congrArg World.drawn e2;simp only[eu,Nat.zero_add]at e3;obtain⟨fr1,frs1,v1⟩:=s1;obtain⟨fr2,frs2,v2⟩:=s2
 dsimp only at e1 h2 k2
 refine⟨?_,e3⟩
 have e4:re w1 z0 0=re w2 z0 0:=by
  have:=congrArg (fun w=>re w z0 0) e2;simpa using this
 rw[e1.1,e1.2.1,h2,k2,e4]
def kl:Bool→List Item
 |true=>[.code (.refuse "")]
 |false=>[]
def EndOk(P:Program)(A:Nat→Prop)(ok:FuncId→Prop)(pc:Bool)(En:Frame→World→Prop):Prop :=
 ∀fr w τ d τ' d',FrC P A ok fr→HC (EV P A ok) w→En (wk fr (kl pc)) (re w τ d)→En (wk fr (kl pc)) (re w τ' d')
def GoodC(pc:Bool)(En:Frame→World→Prop)(s:Cs):Prop:=s.frs=[]∧∀ τ d,En (wk s.fr (kl pc)) (re s.w τ d)
def ComesC(P:Program)(pc:Bool)(En:Frame→World→Prop)(s:Cs)(τ:Tp)(d M:Nat):Prop :=
 ∃fr w2,runN P M (single (gk s.fr s.frs (kl pc) [c0 P]) (re s.w τ d))=.next (lone fr [c0 P] w2)∧En fr w2
theorem kl_ok:∀ pc:Bool,pc=false→kl pc=[]
 |false,_=>rfl
theorem addK_length:∀ (frs:List Frame) (k:List Item),(addK frs k).length=frs.length
 |[],_=>rfl
 |f::frs,k=>by simp[addK,addK_length frs k]
theorem reach_of(hS:Snd2 P A ok){En:Frame→World→Prop}(hE:EndOk P A ok pc En):∀ (M:Nat) (s:Cs) (τ:Tp) (d:Nat),Fine1 P A ok s→ComesC P pc En s τ d M→Co.Reach (StpC P A ok pc true) (GoodC pc En) s (aW d τ):=by
 intro M
 induction M with
 |zero =>
  rintro⟨fr,frs,w⟩ τ d hs ⟨fr',w2,h1,h2⟩;simp only[runN,Stepped.next.injEq,df]at h1;obtain⟨hg,hw⟩:=dF h1;simp only[gk,G,Goroutine.mk.injEq]at hg;obtain⟨e1,e2,-⟩:=hg
  have hf:frs=[]:=by
   have:=congrArg List.length e2;simp[addK_length]at this;exact this
  subst hf e1 hw;exact .good ⟨rfl,fun τ' d'=>hE _ _ _ _ _ _ hs.st.top hs.hc h2⟩
 |succ M ih =>
  rintro⟨fr,frs,w⟩ τ d hs ⟨fr',w2,h1,h2⟩;simp only[runN]at h1
  cases out_step (pc:=pc) (main:=true) hS (hs.hc.re τ d) hs.st with
  |@on fr1 frs1 w1 es n ho st hc fw ev =>
   have e:=ho.step (kl pc) [c0 P] τ d (kl_ok pc) fun i hi=>rfl;rw[show re (re w τ d) τ d=re w τ d from rfl]at e;rw[bH rfl e]at h1;simp only at h1
   have hst:StpC P A ok pc true ⟨fr,frs,w⟩ (aW d τ) ⟨fr1,frs1,re w1 z0 0⟩ n :=
    ⟨_,es,ho.rebase (τ':=aW d τ) (d':=0) fun i hi=>by simp[aW],rfl,⟨st,hc.re _ _⟩,⟨fw.size,fw.keep,fw.os,fw.output⟩,ev⟩
   refine .step hst ?_;have:=ih ⟨fr1,frs1,re w1 z0 0⟩ τ (d+n) ⟨st,hc.re _ _⟩ ⟨fr',w2,h1,h2⟩;rw[show aW n (aW d τ)=aW (d+n) τ from by funext i;simp[aW,Nat.add_assoc]];exact this
  |@leave u w1 es n hf hd ht ho h0 hv hc fw ev md =>
   dsimp only at hf
   subst hf;have e:=ho (kl pc) (c0 P) [] τ d fun i hi=>rfl;rw[show re (re w τ d) τ d=re w τ d from rfl]at e;rw[show gk fr [] (kl pc) [c0 P]=G (wk fr (kl pc)) [c0 P] from rfl,bH rfl e]at h1;simp only at h1;exfalso
   cases M with
   |zero =>
    simp only[runN,Stepped.next.injEq,df]at h1;obtain⟨hg,-⟩:=dF h1;simp[G]at hg
   |succ M =>
    simp only[runN]at h1;obtain⟨o,es2,he⟩:=door_ends (P:=P) (v:=u) (w:=re w1 τ (d+n));rw[bD rfl he]at h1;cases h1
  |@throw ch hf ho md =>
   dsimp only at hf
   subst hf;have e:=ho (kl pc) (c0 P) [] τ d;rw[show re (re w τ d) τ d=re w τ d from rfl]at e;rw[show gk fr [] (kl pc) [c0 P]=G (wk fr (kl pc)) [c0 P] from rfl,bH rfl e]at h1;simp only at h1;exfalso
   cases M with
   |zero =>
    simp only[runN,Stepped.next.injEq,df]at h1;obtain⟨hg,-⟩:=dF h1;simp[G]at hg
   |succ M =>
    simp only[runN]at h1;obtain⟨o,es2,he⟩:=pan_c0 (P:=P) (ch:=ch) (w:=re w τ d);rw[bD rfl he]at h1;cases h1
  |arrive hpc hf ht hm =>
   exfalso
   dsimp only at hf ht hm
   subst hf hpc
   have he:∃ o es,stepG P true (gk fr [] (kl true) [c0 P]) (re w τ d)=.ended o (re w τ d) es:=by
    obtain⟨fn,tmps,todo,defers,mode,kind,roundOf⟩:=fr
    dsimp only at ht hm
    subst ht hm;unfold gk;rw[aj rfl];exact⟨_,_,rfl⟩
   obtain⟨o,es,e⟩:=he;rw[bD rfl e]at h1;cases h1
  |jump hpc hf hm ho =>
   exfalso
   dsimp only at hf ho hm
   subst hf hpc;rcases ho "" (c0 P) [] with⟨o,w3,es,e⟩|⟨g,w3,es,e,hg⟩
   ·rw[show gk fr [] (kl true) [c0 P]=G (wk fr [.code (.refuse "")]) [c0 P] from rfl,bD rfl e]at h1;cases h1
   ·rw[show gk fr [] (kl true) [c0 P]=G (wk fr [.code (.refuse "")]) [c0 P] from rfl,bH rfl e]at h1;exact jE hg _ _ _ h1
  |bad ho =>
   exfalso;rcases ho (kl pc) (c0 P) [] (kl_ok pc) with⟨o,w3,es,e⟩|⟨g,w3,es,e,hg⟩
   ·rw[bD rfl e]at h1;cases h1
   ·rw[bH rfl e]at h1;exact jE hg _ _ _ h1
theorem tree_c(hS:Snd2 P A ok){En:Frame→World→Prop}(hE:EndOk P A ok pc En){s:Cs}(hs:Fine1 P A ok s)(h:∀ τ,∃M,ComesC P pc En s τ 0 M):Tre (StpC P A ok pc true) (GoodC pc En) s:=by
 refine glue stp_loc stp_det z0 fun τ=>?_;obtain⟨M,hM⟩:=h τ;have:=reach_of hS hE M s τ 0 hs hM;rwa[show aW 0 τ=τ from by funext i;simp[aW]]at this
def EnF(P:Program)(R:Value→World→Prop)(fr:Frame)(w:World):Prop:=fr.mode=.returning∧fr.defers=[]∧fr.kind=.normal∧∃ F v,P.funcs[fr.fn]? = some F∧R v w∧(results F fr.tmps).run P w=.ok v w
theorem enF_ok(hS:Snd2 P A ok){R:Value→World→Prop}(hR:∀ v w τ d,R v w→R v (re w τ d)):EndOk P A ok pc (EnF P R):=by
 rintro fr w τ d τ' d' hF hc ⟨h2,h3,hk,F,v,h4,h5,h6⟩;have h6':(results F fr.tmps).run P (re w τ d)=.ok v (re w τ d):=h6;refine⟨h2,h3,hk,F,v,h4,hR v (re w τ d) τ' d' h5,?_⟩;show(results F fr.tmps).run P (re w τ' d')=.ok v (re w τ' d');have hu:=(oz (P:=P) (E:=EV P A ok) hS.types F hF.tmps).out (hc.re τ d);rcases hu with⟨a,w',es,n,ha,hc,fw,hev,l1,l2,l3⟩|⟨a,w',es,n,ha,hc,fw,hev,l1,l2,l3⟩|⟨x,w',es,k1,k2,k3⟩
 ·have a1:=l3 τ d fun _ _=>rfl;have a2:=congrArg Prod.fst a1;rw[Sem.runT_fst]at a2;rw[show re (re w τ d) τ d=re w τ d from rfl]at a2;rw[h6']at a2;injection a2 with b1 b2;subst b1
  have hn:n=0:=by
   have:=congrArg World.drawn b2;simp only[eu]at this;omega
  subst hn;have c1:=l3 τ' d' fun i hi=>absurd hi (by omega);have c2:=congrArg Prod.fst c1;rw[Sem.runT_fst]at c2;rw[show re (re w τ d) τ' d'=re w τ' d' from rfl]at c2;rw[c2]
  have:re w' τ' (d'+0)=re w τ' d':=by
   have:=congrArg (fun x=>re x τ' d') b2;simp only[re_re]at this;rw[Nat.add_zero];exact this.symm
  rw[this]
 ·have a1:=l3 τ d fun _ _=>rfl;have a2:=congrArg Prod.fst a1;rw[Sem.runT_fst]at a2;rw[show re (re w τ d) τ d=re w τ d from rfl]at a2;rw[h6']at a2;cases a2
 ·have a2:=congrArg Prod.fst k3;rw[Sem.runT_fst]at a2;rw[h6']at a2;cases a2
end
end Cl
namespace Cl
open Conc Co
open Go.ConcN (sumTo upd sumTo_upd upd_ne upd_same)
def Ended(P:Program)(Q:Value→World→Prop)(m:Machine)(t:Trace):Prop :=
 ∃N last o w' t',runNT P (N+1) m t=(.ended o w',t')∧runN P N m=.next last∧step P last=.ended o w'∧Go.Conc.Good P Q last o w' t'
def ShZ(Z:Nat→Prop)(l:Loc):Prop:=(∃a,l=.cell a∧Z a.block)∨∃r,l=.obj r∧Z r
section
variable {P:Program}{Q:Value→World→Prop}
theorem Ended.next{m m':Machine}{t:Trace}{ops:Array MemOp}(h:stepT P m=(.next m',ops))(k:Ended P Q m' (t++ops)):Ended P Q m t:=by
 obtain⟨N,last,o,w',t',h1,h2,h3,h4⟩:=k;exact⟨N+1,last,o,w',t',by rw[runNT_succ_next h];exact h1,by rw[runN_succ_next h];exact h2,h3,h4⟩
theorem Ended.last{m:Machine}{t:Trace}{o:Outcome}{w':World}{ops:Array MemOp}(h:stepT P m=(.ended o w',ops))(hg:Go.Conc.Good P Q m o w' (t++ops)):Ended P Q m t :=
 ⟨0,m,o,w',t++ops,by simp[runNT,h],rfl,by simp[step,h],hg⟩
theorem turn{a:Goroutine}{w:World}{Z:Nat→Prop}(ha:a.status=.running)
 (hm:∀ gs sl t q τ d,gs[0]? = some a→Leavers P t gs q→Past (ShZ Z) w.heap.size t →
  (∃m' ops,runT P (crowd gs (re w τ d) sl) 0=(.next m',ops)∧Ended P Q m' (t++ops))∨(∃o w' ops,runT P (crowd gs (re w τ d) sl) 0=(.ended o w',ops)∧∀ sl0 d0,Go.Conc.Good P Q (crowd gs (re w τ d0) sl0) o w' (t++ops))) :
 ∀gs sl t q τ d,gs[0]? = some a→Leavers P t gs q→Past (ShZ Z) w.heap.size t→Ended P Q (crowd gs (re w τ d) sl) t:=by
 have key:∀ (M:Nat) gs sl t q τ d,sumTo gs.size q≤M→gs[0]? = some a→Leavers P t gs q→Past (ShZ Z) w.heap.size t→Ended P Q (crowd gs (re w τ d) sl) t:=by
  intro M
  induction M with
  |zero =>
   intro gs sl t q τ d hM h0 hL hP
   have haw:∀ g∈gs,awake g:=by
    intro g hg;obtain⟨i,hi,rfl⟩:=Array.mem_iff_getElem.1 hg;rcases Nat.eq_zero_or_pos i with rfl|hpos
    ·have:gs[0]=a:=by simpa[Array.getElem?_eq_getElem hi] using h0
     rw[this];exact awake_of (.inl ha)
    ·exact awake_of ((hL.old i _ hpos (Array.getElem?_eq_getElem hi)).status.elim .inl fun x=>.inr (.inr x))
   obtain⟨i,g,d',sl',hi,hg,hst⟩:=crowd_pick (P:=P) (w:=re w τ d) (sl:=sl) haw ⟨0,a,h0,ha⟩;rcases Nat.eq_zero_or_pos i with rfl|hpos
   ·rcases hm gs sl' t q τ d' h0 hL hP with⟨m',ops,h1,h2⟩|⟨o,w',ops,h1,h2⟩
    ·exact .next (hst.trans h1) h2
    ·exact .last (hst.trans h1) (h2 sl d)
   ·have hq:=hL.old i g hpos hi;have hlt:i<gs.size:=(Array.getElem?_eq_some_iff.1 hi).1
    have hq0:q i=0:=by
     have:=Go.ConcN.le_sumTo (f:=q) hlt;omega
    rw[hq0]at hq;rw[hq.1]at hg;cases hg
  |succ M ih =>
   intro gs sl t q τ d hM h0 hL hP
   have haw:∀ g∈gs,awake g:=by
    intro g hg;obtain⟨i,hi,rfl⟩:=Array.mem_iff_getElem.1 hg;rcases Nat.eq_zero_or_pos i with rfl|hpos
    ·have:gs[0]=a:=by simpa[Array.getElem?_eq_getElem hi] using h0
     rw[this];exact awake_of (.inl ha)
    ·exact awake_of ((hL.old i _ hpos (Array.getElem?_eq_getElem hi)).status.elim .inl fun x=>.inr (.inr x))
   obtain⟨i,g,d',sl',hi,hg,hst⟩:=crowd_pick (P:=P) (w:=re w τ d) (sl:=sl) haw ⟨0,a,h0,ha⟩;rcases Nat.eq_zero_or_pos i with rfl|hpos
   ·rcases hm gs sl' t q τ d' h0 hL hP with⟨m',ops,h1,h2⟩|⟨o,w',ops,h1,h2⟩
    ·exact .next (hst.trans h1) h2
    ·exact .last (hst.trans h1) (h2 sl d)
   ·have hq:=hL.old i g hpos hi
    have hi0:(i==0)=false:=by simp;omega
    have hlt:i<gs.size:=(Array.getElem?_eq_some_iff.1 hi).1
    cases hqi:q i with
    |zero=>rw[hqi]at hq;rw[hq.1]at hg;cases hg
    |succ k =>
     rw[hqi]at hq;rcases hq with⟨hf,_⟩|⟨_,g',es,hmu,hstp,hq'⟩
     ·rw[hf]at hg;cases hg
     have hrunT:=runT_crowd_go (P:=P) (sl:=sl') (i:=i) hi (by rw[hi0];exact hstp ((re w τ d).at d'))
     have hsz:((gs.map (woken P g g' ((re w τ d).at d'))).setIfInBounds i g').size=gs.size:=by simp
     have hsum:sumTo gs.size (upd q i k)+(k+1)=sumTo gs.size q+k:=by
      have:=sumTo_upd q k id hlt;simpa[hqi] using this
     refine .next (hst.trans hrunT) ?_;refine ih ((gs.map (woken P g g' ((re w τ d).at d'))).setIfInBounds i g') sl' (t++MemOp.ofEvents i g.frame.fn g.frame.place es) (upd q i k) τ d' (by rw[hsz];omega) ?_ ⟨fun j x hj hx=>?_,fun j hj=>?_⟩ (hP.mute (by omega) hmu)
     ·have hne:i≠0:=by omega
      rw[Array.getElem?_setIfInBounds_ne hne,Array.getElem?_map,h0];simp[woken_run ha]
     ·by_cases hji:i=j
      ·subst hji;rw[Array.getElem?_setIfInBounds_self_of_lt (by simpa using hlt)]at hx;obtain rfl:=Option.some.inj hx;rw[upd_same,Deaf_own];exact hq'
      ·rw[Array.getElem?_setIfInBounds_ne hji,Array.getElem?_map]at hx;obtain⟨y,hy,rfl⟩:=Option.map_eq_some_iff.1 hx;have hqj:=hL.old j y hj hy;rw[woken_quitsD hqj,upd_ne q k (Ne.symm hji),Deaf_other t hji _ (fun op hop=>by obtain⟨e,_,rfl⟩:=Go.Conc.mem_ofEvents hop;rfl)];exact hqj
     ·rw[Deaf_other t (g':=i) (by simp at hj;omega) _ (fun op hop=>by obtain⟨e,_,rfl⟩:=Go.Conc.mem_ofEvents hop;rfl)];exact hL.above j (by simpa using hj)
 exact fun gs sl t q τ d=>key _ gs sl t q τ d (Nat.le_refl _)
theorem evL_of{E:Ev}{Z:Nat→Prop}{n:Nat}{e:Event}(h:EvA E n e)(hZ:∀ x,Z x→¬ E.A x):EvL (ShZ Z) n e:=by
 obtain⟨loc,wr,sy⟩:=e;rcases h with⟨a,h1,h2,h3⟩|⟨r,h1,h2,h3,h4⟩|h1|⟨i,h1⟩|h1
 ·dsimp only at h1
  subst h1;refine⟨fun x hx hs=>?_,by simp,by simp,?_⟩
  ·simp only[ofEvent_cell0,MemAct.touch?,Option.some.injEq]at hx;subst hx;rcases hs with⟨b,e,hb⟩|⟨b,e,hb⟩
   ·cases e;exact absurd h2 (hZ _ hb)
   ·cases e
  ·rw[ofEvent_cell0];exact h3
 ·dsimp only at h1 h4
  subst h1;refine⟨fun x hx hs=>?_,by simp,by simp,?_⟩
  ·have:MemAct.ofEvent ⟨.obj r,wr,sy⟩=.access ⟨.obj r,wr,sy⟩:=by
    cases wr<;>cases sy<;>first|rfl|(rcases h4 with h|h<;>cases h)
   rw[this]at hx;simp only[MemAct.touch?,Option.some.injEq]at hx;subst hx;rcases hs with⟨b,e,hb⟩|⟨b,e,hb⟩
   ·cases e
   ·cases e;exact absurd h2 (hZ _ hb)
  ·have:MemAct.ofEvent ⟨.obj r,wr,sy⟩=.access ⟨.obj r,wr,sy⟩:=by
    cases wr<;>cases sy<;>first|rfl|(rcases h4 with h|h<;>cases h)
   rw[this];exact h3
 ·dsimp only at h1
  subst h1;refine⟨fun x hx hs=>?_,by simp,by simp,trivial⟩;simp[MemAct.ofEvent,MemAct.touch?]at hx
 ·dsimp only at h1
  subst h1;refine⟨fun x hx hs=>?_,by simp,by simp,trivial⟩;simp[MemAct.ofEvent,MemAct.touch?]at hx
 ·dsimp only at h1
  subst h1;refine⟨fun x hx hs=>?_,by simp,by simp,?_⟩
  ·rcases hs with⟨b,e,hb⟩|⟨b,e,hb⟩
   ·cases wr<;>cases sy<;>simp[MemAct.ofEvent,MemAct.touch?]at hx<;>subst hx<;>cases e
   ·cases wr<;>cases sy<;>simp[MemAct.ofEvent,MemAct.touch?]at hx<;>subst hx<;>cases e
  ·cases wr<;>cases sy<;>trivial
theorem own_step{a a':Goroutine}{w w':World}{Z:Nat→Prop}{gs:Array Goroutine}{sl:Option (Nat×Nat)}{t:Trace}{q:Nat→Nat}{τ:Tp}{d d':Nat}{es:Array Event}(h0:gs[0]? = some a)(hL:Leavers P t gs q)(hP:Past (ShZ Z) w.heap.size t)
 (hs:stepG P true a (re w τ d)=.go a' (re w' τ d') es) (hsz:w.heap.size≤w'.heap.size) (hev:∀ e∈es,EvL (ShZ Z) w'.heap.size e)
 (hk:∀ gs sl t q d,gs[0]? = some a'→Leavers P t gs q→Past (ShZ Z) w'.heap.size t→Ended P Q (crowd gs (re w' τ d) sl) t) :
 ∃m' ops,runT P (crowd gs (re w τ d) sl) 0=(.next m',ops)∧Ended P Q m' (t++ops):=by
 have hrunT:=runT_crowd_go (P:=P) (sl:=sl) (i:=0) h0 (show stepG P (0==0) a (re w τ d)=_ from hs);have hlt:0<gs.size:=(Array.getElem?_eq_some_iff.1 h0).1;refine⟨_,_,hrunT,hk _ sl _ q d' (by simp[hlt]) ⟨fun j x hj hx=>?_,fun j hj=>?_⟩ ((hP.mono hsz).own hev)⟩
 ·have hne:0≠j:=by omega
  rw[Array.getElem?_setIfInBounds_ne hne,Array.getElem?_map]at hx;obtain⟨y,hy,rfl⟩:=Option.map_eq_some_iff.1 hx;have hq:=hL.old j y hj hy;rw[woken_quitsD hq,Deaf_other t (by omega) _ (fun op hop=>by obtain⟨e,_,rfl⟩:=Go.Conc.mem_ofEvents hop;rfl)];exact hq
 ·rw[Deaf_other t (g':=0) (by simp at hj;omega) _ (fun op hop=>by obtain⟨e,_,rfl⟩:=Go.Conc.mem_ofEvents hop;rfl)];exact hL.above j (by simpa using hj)
theorem own_end{a:Goroutine}{w w':World}{Z:Nat→Prop}{gs:Array Goroutine}{sl:Option (Nat×Nat)}{t:Trace}{q:Nat→Nat}{τ:Tp}{d:Nat}{es:Array Event}{v:Value}(h0:gs[0]? = some a)(hL:Leavers P t gs q)(hP:Past (ShZ Z) w.heap.size t)
 (hs:stepG P true a (re w τ d)=.ended (.done v) w' es) {B:Nat} (hsz:w.heap.size≤B) (hev:∀ e∈es,EvL (ShZ Z) B e) (hq:Q v w') :
 ∃o w' ops,runT P (crowd gs (re w τ d) sl) 0=(.ended o w',ops)∧∀ sl0 d0,Go.Conc.Good P Q (crowd gs (re w τ d0) sl0) o w' (t++ops):=by
 have hrunT:=runT_many_ended (P:=P) (sl:=sl) (i:=0) h0 (show stepG P (0==0) a (re w τ d)=_ from hs);have hP':=(hP.mono hsz).own (fn:=a.frame.fn) (pos:=a.frame.place) hev;refine⟨_,_,_,hrunT,fun sl0 d0=>⟨v,rfl,hq,hP'.clean,hP'.over,⟨fun x hx=>?_,rfl⟩,fun j x hx hj=>?_⟩⟩
 ·obtain⟨j,hj⟩:=List.mem_iff_getElem?.1 hx;rw[List.getElem?_drop]at hj;exact⟨_,(hL.old (1+j) x (by omega) (by simpa[crowd] using hj)).leaves⟩
 ·have hqd:=hL.old j x (by omega) hx;refine⟨q j,?_⟩
  have e:(t++MemOp.ofEvents 0 a.frame.fn a.frame.place es).deaf j (t++MemOp.ofEvents 0 a.frame.fn a.frame.place es).size=Deaf t j :=
   Deaf_other t (g:=j) (g':=0) (by omega) _ (fun op hop=>by obtain⟨e,_,rfl⟩:=Go.Conc.mem_ofEvents hop;rfl)
  rw[e];exact hqd.hears _
end
section
variable {P:Program}{A:Nat→Prop}{ok:FuncId→Prop}{Q:Value→World→Prop}
theorem FrC.running(fr:Frame)(cs:List Frame):(G fr cs).status=.running:=rfl
theorem tree_walk{pc:Bool}{En:Frame→World→Prop}{Z:Nat→Prop}(hZ:∀ x,Z x→¬ A x){C:List Frame}{k:List Item}(hk:pc=false→k=[]){s:Cs}(ht:Tre (StpC P A ok pc true) (GoodC pc En) s):Fine1 P A ok s →
 (∀s',GoodC pc En s'→Fine1 P A ok s'→Fw (EV P A ok) s.w s'.w→∀ gs sl t q τ d,gs[0]? = some (G (wk s'.fr k) C)→Leavers P t gs q→Past (ShZ Z) s'.w.heap.size t→Ended P Q (crowd gs (re s'.w τ d) sl) t) →
 ∀gs sl t q τ d,gs[0]? = some (gk s.fr s.frs k C)→Leavers P t gs q→Past (ShZ Z) s.w.heap.size t→Ended P Q (crowd gs (re s.w τ d) sl) t:=by
 induction ht with
 |@good s hg =>
  intro hf hend gs sl t q τ d h0 hL hP
  have h00:gk s.fr s.frs k C=G (wk s.fr k) C:=by
   rw[hg.1];rfl
  rw[h00]at h0;exact hend s hg hf (.refl _) gs sl t q τ d h0 hL hP
 |@node s nx nn h ht ih =>
  intro hf hend;refine turn rfl fun gs sl t q τ d h0 hL hP=>?_;obtain⟨w2,es,h1,h2,h3,h4,h5⟩:=h (aW d τ)
  have hst:=h1.step k C τ d hk fun i hi=>by simp[aW]
  rw[show re (re s.w (aW d τ) 0) τ d=re s.w τ d from rfl]at hst;left
  have e2:∀ τ' d',re w2 τ' d'=re (nx (aW d τ)).w τ' d':=fun τ' d'=>by rw[h2];rfl
  rw[e2]at hst;refine own_step (w:=s.w) h0 hL hP hst h4.size (fun e he=>evL_of (h5 e he) hZ) fun gs sl t q d h0 hL hP=>?_;exact ih _ h3 (fun s' g1 g2 g3=>hend s' g1 g2 (h4.trans g3)) gs sl t q τ d h0 hL hP
end
end Cl
