/- Texts of this seat,put together: Script,NoteO,TopOpen,LwLaid,Laid. -/
import Derived.Test.YtlaipigilikmbaaGreatDoorMb1
import Derived.Deep.Slices
import Derived.Deep.Fields
import Derived.ChangeSame
import Derived.ProofKit
import Derived.OpenShut
import Derived.SizedLaws
import Derived.Test.YtlaipigilikmbaaGreatDoorMb30
import Derived.Test.YtlaipigilikmbaaGreatDoorMb33
import Derived.SevenTiedAt
import Derived.Test.YtlaipigilikmbaaGreatDoorRows
import Derived.Test.YtlaipigilikmbaaGreatDoorMb39
import Derived.ChangeVars
import Derived.JoinedOf
import Derived.RowKit
import Derived.RowKitTokens
import Derived.LaidLaws
import Derived.LaidHandle
import Derived.Stop.Joined
set_option linter.unusedVariables false
set_option linter.unusedSimpArgs false
namespace Go.Proofs.YtlaipigilikmbaaGreatDoor
noncomputable section
section
open Go.ChangeShapes Go.WideShapes Go.Deep RowKit
def RdS(w:World)(A:Option Addr)(n k:Nat)(V:Nat→Nat→Value):Prop :=
 n=0∨∃b off,A=some ⟨b,off,none⟩∧b<w.heap.size∧∀ i j,i<n→j<k→w.cell? ⟨b,off+(i*k+j),none⟩=some (V i j)
theorem RdS.keep{w w':World}{A:Option Addr}{n k:Nat}{V:Nat→Nat→Value}(h:RdS w A n k V)(hk:∀ q,q<w.heap.size→w'.heap[q]? = w.heap[q]?)(hs:w.heap.size≤w'.heap.size):RdS w' A n k V:=by
 rcases h with rfl|⟨b,off,rfl,hb,hc⟩
 ·exact .inl rfl
 ·refine .inr ⟨b,off,rfl,by omega,fun i j hi hj=>?_⟩;rw[World.cell?_of_block (w:=w) (hk b hb)];exact hc i j hi hj
theorem RdS.below{w w':World}{A:Option Addr}{n k:Nat}{V:Nat→Nat→Value}(h:RdS w A n k V)(hb:Below w.heap.size w w'):RdS w' A n k V:=h.keep hb.block hb.size
theorem RdS.at_{w:World}{A:Option Addr}{n k:Nat}{V:Nat→Nat→Value}(h:RdS w A n k V){i:Nat}(hi:i<n):∃ b off,A=some ⟨b,off,none⟩∧b<w.heap.size∧∀ j,j<k→w.cell? ⟨b,off+(i*k+j),none⟩=some (V i j):=by
 rcases h with rfl|⟨b,off,rfl,hb,hc⟩
 ·omega
 ·exact⟨b,off,rfl,hb,fun j hj=>hc i j hi hj⟩
section
variable {H:Type}{enc:TypeId×Value→H}{P:Program}{w:World}{base:Nat}{spare:Nat→Bool}{held:Bool}
theorem lV{t e:TypeId}{fs:Array Field}{fuel:Nat}{cs:List Value}{x:DataW H×List MemPlace}(ht:P.underlying t=some (.slice e))(he:P.underlying e=some (.struct fs))
 (hone:oneCellFields P fs=true) (hC:P.cellsOf e=fs.size) (h:DataW.trod enc P w base spare held fuel t cs=some x) :
 (cs=[.slice none 0 0]∧x=(.nil,[])) ∨
 ∃(a:Addr) (len cap m:Nat) (D:Nat→DataW H) (Pl:Nat→List MemPlace),cs=[.slice (some a) len cap]∧base≤a.block∧len≤cap∧cap≤maxLen∧m=(if spare a.block then cap else len) ∧
  x=(.slice ((List.range len).map D) ((List.range (m-len)).map fun j=>D (len+j)),MemPlace.row a (m*fs.size)++(List.range m).flatMap Pl) ∧
  ∀i,i<m→∃ (ys:List (DataW H×List MemPlace)) (n:Nat),D i=.agg (ys.map (·.1))∧Pl i=ys.flatMap (·.2)∧ys.length=fs.size ∧
   ∀(j:Nat) (f:Field),fs[j]? = some f→∃ (v:Value) (y:DataW H×List MemPlace),w.cell? (a.add (i*fs.size+j))=some v∧ys[j]? = some y∧DataW.trod enc P w base spare held n f.type [v]=some y:=by
 rcases open_slice ht h with h0|⟨a,len,cap,m,n,D,Pl,hcs,hb,hl,hm,hmm,hx,hi⟩
 ·exact .inl h0
 ·refine .inr ⟨a,len,cap,m,D,Pl,hcs,hb,hl,hm,hmm,by rw[hC]at hx;exact hx,fun i him=>?_⟩;obtain⟨cs',hc,ht'⟩:=hi i him;rw[hC]at hc;obtain⟨ys,n',hn',hy,hlen,hyl,hf⟩:=DataW.trod_struct he ht';obtain⟨_,hcl,hat⟩:=World.cells?_some hc;simp only[Prod.mk.injEq]at hy;refine⟨ys,n',hy.1,hy.2,hyl,fun j f hj=>?_⟩;obtain⟨ho,hk⟩:=hone_of hone j f hj;have hjl:j<fs.size:=(Array.getElem?_eq_some_iff.1 hj).1;have hcell:=hat j hjl;have hv:cs'[j]? = some (cs'[j]'(by omega)):=List.getElem?_eq_getElem (by omega);have h1:=hf j f hj;rw[ho,hk]at h1
  have hone':(cs'.drop j).take 1=[cs'[j]'(by omega)]:=by
   rw[List.drop_eq_getElem_cons (by omega)];rfl
  rw[hone']at h1;have hys:ys[j]? = some (ys[j]'(by omega)):=List.getElem?_eq_getElem (by omega);refine⟨_,_,?_,hys,h1.trans hys⟩;rw[←Go.Deep.add_add,hcell,hv]
def iJ(w:World)(a:Addr):Int:=match w.cell? a with
 |some (.int .i64 x)=>if -9223372036854775808≤x∧x≤9223372036854775807 then x else 0
 |_=>0
end
end
namespace RecW
open Go.ChangeShapes Go.WideShapes Go.Deep RowKit Rec I64
open Conc Cl
def Tld(w:World)(v:Value):Prop:=∀ A n c,v=.slice A n c→∀ a,A=some a→told w a.block∨n=0∧c=0
theorem Tld.nil{w:World}:Tld w (.slice none 0 0):=fun A n c hv a ha=>by injection hv with e1;subst e1;cases ha
section
variable {H:Type}{enc:TypeId×Value→H}{w:World}
theorem ent_fields:∃ fs:Array Field,Tryz.prog.underlying 64=some (.struct fs)∧oneCellFields Tryz.prog fs=true∧Tryz.prog.cellsOf 64=3∧fs.size=3∧∀ (j:Nat) f,fs[j]? = some f→Tryz.prog.underlying f.type=some (.int .i64) :=
 ⟨_,Tryz.underlying64,by kernel_rfl,by kernel_rfl,rfl,fun j f hf=>by rcases j with _|_|_|j<;>simp at hf<;>subst hf<;>exact Tryz.underlying3⟩
theorem open_ents{fuel:Nat}{cs:List Value}{x:DataW H×List MemPlace}(h:DataW.trod enc Tryz.prog w 0 (fun _=>true) true fuel 27 cs=some x) :
 ∃ve es,cs=[ve]∧RdE w ve es∧Tld w ve:=by
 obtain⟨fs,hfs,hone,hC,hsz,hint⟩:=ent_fields;rcases lV Tryz.underlying27 hfs hone (by rw[hsz];exact hC) h with⟨rfl,rfl⟩|⟨a,len,cap,m,D,Pl,rfl,-,hl,hm,hmm,hx,hi⟩
 ·exact⟨_,[],rfl,⟨none,0,rfl,fun i e hie=>by simp at hie⟩,Tld.nil⟩
 ·simp only[if_true]at hmm;subst hmm
  have hcell:∀ i j,i<len→j<3→w.cell? (a.add (i*3+j))=some (.int .i64 (iJ w (a.add (i*3+j)))):=by
   intro i j hi' hj;obtain⟨ys,n,-,-,-,hff⟩:=hi i (by omega);rw[hsz]at hff
   have hjs:j<fs.size:=by omega
   obtain⟨v,y,hc,-,hty⟩:=hff j fs[j] (Array.getElem?_eq_getElem hjs);obtain⟨z,hz,-,hw⟩:=DataW.trod_int (hint j fs[j] (Array.getElem?_eq_getElem hjs)) hty;simp only[List.cons.injEq,and_true]at hz;subst hz;have hbd:=bounds_i64 hw;unfold iJ;rw[hc];simp only;rw[if_pos hbd]
  have hl0:((List.range len).map fun i=>(iJ w (a.add (i*3+0)),iJ w (a.add (i*3+1)),iJ w (a.add (i*3+2)))).length=len:=by simp
  refine⟨_,(List.range len).map fun i=>(iJ w (a.add (i*3+0)),iJ w (a.add (i*3+1)),iJ w (a.add (i*3+2))),rfl,⟨some a,m,by rw[hl0],fun i e hie=>?_⟩,fun A n c hv a' ha=>?_⟩
  ·have hlt:i<len:=by have:=(List.getElem?_eq_some_iff.1 hie).1;rw[hl0]at this;exact this
   rw[List.getElem?_map,List.getElem?_range hlt]at hie;simp only[Option.map_some,Option.some.injEq]at hie;subst hie;obtain⟨b,off,spot⟩:=a;have hc0:=hcell 0 0 (by omega) (by omega)
   have hspot:spot=none:=by simpa[Addr.add] using World.cell?_spot hc0
   subst hspot;have c0:=hcell i 0 hlt (by omega);have c1:=hcell i 1 hlt (by omega);have c2:=hcell i 2 hlt (by omega);refine⟨b,off,rfl,?_,?_,?_⟩
   ·simpa only[Addr.add_lit,Nat.add_zero] using c0
   ·simpa only[Addr.add_lit,Nat.add_assoc] using c1
   ·simpa only[Addr.add_lit,Nat.add_assoc] using c2
  ·injection hv with e1 e2 e3;subst e1 e2 e3;cases ha;rcases Nat.eq_zero_or_pos m with h0|h0
   ·exact .inr ⟨by omega,h0⟩
   ·obtain⟨ys,n',-,-,-,hff⟩:=hi 0 h0;rw[hsz]at hff;obtain⟨v,y,hc,-,hty⟩:=hff 0 fs[0] (Array.getElem?_eq_getElem (by omega));obtain⟨b,off,spot⟩:=a
    have hspot:spot=none:=by simpa[Addr.add] using World.cell?_spot hc
    subst hspot;rw[Addr.add_lit]at hc;exact .inl (ou hc)
def RdT(w:World)(v:Value)(ls:List (List E3)):Prop :=
 ∃A c,v=.slice A ls.length c∧ls.length≤c∧c≤maxLen∧Tld w v∧∀ (i:Nat) es,ls[i]? = some es→∃ b off ve,A=some ⟨b,off,none⟩∧w.cell? ⟨b,off+i,none⟩=some ve∧RdE w ve es∧Tld w ve
set_option maxRecDepth 20000 in
theorem open_batches{r:Reach}{b0:Nat}{v:Value}{d:DataW H}{p:List MemPlace}(hval:Value.okWide Tryz.prog w r b0 22 v)(h:DataW.Trod enc Tryz.prog w 0 (fun _=>true) true 22 v d p):∃ ls:List (List E3),RdT w v ls∧(ls.length=0∨∃el sp,d=.slice el sp∧el.length=ls.length):=by
 obtain⟨a0,len0,cap0,rfl⟩:=okWide_slice Tryz.underlying22 hval;obtain⟨fuel,hf⟩:=h
 have hc1:Tryz.prog.cellsOf 27=1:=by kernel_rfl
 rcases open_slice Tryz.underlying22 hf with⟨hcs,-⟩|⟨a,len,cap,m,n,D,Pl,hcs,-,hl,hm,hmm,hx,hi⟩
 ·simp[Value.cells]at hcs;obtain⟨rfl,rfl,rfl⟩:=hcs;exact⟨[],⟨none,0,rfl,Nat.le_refl _,Nat.zero_le _,Tld.nil,fun i e hie=>by simp at hie⟩,.inl rfl⟩
 ·simp[Value.cells]at hcs;obtain⟨rfl,rfl,rfl⟩:=hcs;simp only[if_true]at hmm;subst hmm;simp only[Prod.mk.injEq]at hx;obtain⟨rfl,-⟩:=hx
  have key:∀ i,∃q:Value×List E3,i<m→w.cell? (a.add i)=some q.1∧RdE w q.1 q.2∧Tld w q.1:=by
   intro i;by_cases hlt:i<m
   ·obtain⟨cs',hc,ht⟩:=hi i (by omega);rw[hc1]at hc;obtain⟨_,hcl,hat⟩:=World.cells?_some hc;obtain⟨ve,es,rfl,h1,h2⟩:=open_ents ht;have h4:=hat 0 (by omega)
    have e0:(a.add (i*1+0))=a.add i:=by rw[Nat.mul_one,Nat.add_zero]
    first|rw[e0]at h4|(rw[Nat.mul_one]at h4;rw[show(a.add i).add 0=a.add i from by simp[Addr.add]]at h4)
    exact⟨(ve,es),fun _=>⟨by simpa using h4,h1,h2⟩⟩
   ·exact⟨(undef,[]),fun h=>absurd h hlt⟩
  obtain⟨f,hf'⟩:=Classical.axiomOfChoice key
  have hl0:((List.range len0).map fun i=>(f i).2).length=len0:=by simp
  have hsp:0<m→a.spot=none∧told w a.block:=fun h0=>by
   have hc0:=(hf' 0 h0).1;obtain⟨b,off,spot⟩:=a
   have hspot:spot=none:=by simpa[Addr.add] using World.cell?_spot hc0
   subst hspot;rw[Addr.add_lit]at hc0;exact⟨rfl,ou hc0⟩
  refine⟨(List.range len0).map fun i=>(f i).2,⟨some a,m,by rw[hl0],by rw[hl0];exact hl,hm,fun A n c hv a' ha=>?_,fun i es hie=>?_⟩,.inr ⟨_,_,rfl,by simp⟩⟩
  ·injection hv with e1 e2 e3;subst e1 e2 e3;cases ha;rcases Nat.eq_zero_or_pos m with h0|h0
   ·exact .inr ⟨by omega,h0⟩
   ·exact .inl (hsp h0).2
  ·have hlt:i<len0:=by have:=(List.getElem?_eq_some_iff.1 hie).1;rw[hl0]at this;exact this
   rw[List.getElem?_map,List.getElem?_range hlt]at hie;simp only[Option.map_some,Option.some.injEq]at hie;subst hie;obtain⟨b,off,spot⟩:=a;obtain⟨rfl,-⟩:=hsp (by omega);obtain⟨c0,c1,c2⟩:=hf' i (by omega);rw[Addr.add_lit]at c0;exact⟨b,off,(f i).1,rfl,c0,c1,c2⟩
end
theorem lw_rde{G:Nat}{w:World}{v:Value}{es:List E3}(h:RdE w v es)(ht:Tld w v):RdE (lwW G w) (clV G w v) es:=by
 obtain⟨A,c,rfl,h⟩:=h;obtain⟨A0,e0,h0⟩:=lw_slice (G:=G) (W:=w) A es.length c (fun a ha=>ht _ _ _ rfl a ha);refine⟨A0,c,e0,fun i e hi=>?_⟩;obtain⟨b,off,rfl,c0,c1,c2⟩:=h i e hi;obtain⟨t0,d0⟩:=ig (G:=G) c0;exact⟨G+b,off,h0 _ rfl t0,d0,(ig (G:=G) c1).2,(ig (G:=G) c2).2⟩
theorem lw_rdb{G:Nat}{w:World}{A:Option Addr}{n c:Nat}{ls:List (List E3)}(h:RdT w (.slice A n c) ls):n=ls.length∧n≤c∧c≤maxLen∧∃ A0,clA G w (.slice A n c)=.slice A0 n c∧RdB (lwW G w) (.slice A0 n c) ls:=by
 obtain⟨A',c',hv,h1,h2,ht,h⟩:=h;injection hv with e1 e2 e3;subst e1 e2 e3;obtain⟨A0,e0,h0⟩:=lw_slice (G:=G) (W:=w) A ls.length c (fun a ha=>ht _ _ _ rfl a ha);refine⟨rfl,h1,h2,A0,e0,A0,c,rfl,fun i es hi=>?_⟩;obtain⟨b,off,ve,rfl,c0,c1,c2⟩:=h i es hi;obtain⟨t0,d0⟩:=ig (G:=G) c0;exact⟨G+b,off,clV G w ve,h0 _ rfl t0,d0,lw_rde c1 c2⟩
end RecW
namespace Cl
open Go.ChangeShapes Go.WideShapes Go.ChangeAt RowKit Go.Deep Go.Joins
open Conc Co Ph
section
variable {H:Type}{enc:TypeId×Value→H}{P:Program}{W:World}
theorem open_ints_l{r:Reach}{b0:Nat}{t e:TypeId}{v:Value}{d:DataW H}{p:List MemPlace}(ht:P.underlying t=some (.slice e))(he:P.underlying e=some (.int .i64))(hc:P.cellsOf e=1)
 (hval:Value.okWide P W r b0 t v) (h:DataW.Trod enc P W 0 (fun _=>true) true t v d p) :
 ∃(A:Option Addr) (L c:Nat) (xs:List Int),v=.slice A L c∧L=xs.length∧L≤maxLen∧(∀a,A=some a→told W a.block∨L=0∧c=0)∧Rd W A (LwW.i64v xs)∧∀ x∈xs,-9223372036854775808≤x∧x≤9223372036854775807:=by
 obtain⟨a0,len0,cap0,rfl⟩:=okWide_slice ht hval;obtain⟨fuel,hf⟩:=h;rcases open_ints ht he hc hf with⟨hcs,_⟩|⟨a,len,cap,zs,hcs,_,hl,hm,hz,hx,hcell,hwz⟩
 ·simp[Value.cells]at hcs;obtain⟨rfl,rfl,rfl⟩:=hcs;exact⟨none,0,0,[],rfl,rfl,Nat.zero_le _,(fun a e=>by cases e),Rd.nil _ _,fun x hx=>by cases hx⟩
 ·simp[Value.cells]at hcs;obtain⟨rfl,rfl,rfl⟩:=hcs
  have hzl:zs.length=cap0:=by simpa using hz
  have hsp:0<cap0→a.spot=none∧told W a.block:=fun h0=>by
   have hc0:=hcell 0 (by omega);obtain⟨b,off,spot⟩:=a
   have hspot:spot=none:=by simpa[Addr.add] using World.cell?_spot hc0
   subst hspot;rw[Addr.add_lit]at hc0;exact⟨rfl,ou hc0⟩
  refine⟨some a,len0,cap0,zs.take len0,rfl,by simp;omega,Nat.le_trans hl hm,fun a' e=>?_,?_,fun x hx=>?_⟩
  ·cases e;rcases Nat.eq_zero_or_pos cap0 with h0|h0
   ·exact .inr ⟨by omega,h0⟩
   ·exact .inl (hsp h0).2
  ·rcases Nat.eq_zero_or_pos len0 with h0|h0
   ·subst h0;exact Rd.nil _ _
   ·obtain⟨b,off,spot⟩:=a;obtain⟨rfl,-⟩:=hsp (by omega);refine .inr ⟨b,off,rfl,fun i u hu=>?_⟩;unfold LwW.i64v at hu;rw[List.getElem?_map]at hu;obtain⟨x,h1,rfl⟩:=Option.map_eq_some_iff.1 hu
    have hi:i<len0:=by
     have:=(List.getElem?_eq_some_iff.1 h1).1;simp only[List.length_take]at this;omega
    have hci:=hcell i (by omega);rw[Addr.add_lit]at hci;rw[List.getElem?_take,if_pos hi,List.getElem?_eq_getElem (by omega)]at h1;cases h1;rw[hci];simp[List.getD,show i<zs.length by omega]
  ·exact bounds_i64 (hwz x (List.mem_of_mem_take hx))
end
end Cl
end
end Go.Proofs.YtlaipigilikmbaaGreatDoor
namespace Go
open Go.Conc
theorem Proofs.YtlaipigilikmbaaGreatDoor.leaving_laid{H:Type}{enc:TypeId×Value→H}{a:Assume}{C:Checked}{os:Os}{f:FuncId}{fn:Func}{s:ChangeSpec}{conds:List PathCond}{apart fresh handsOn again:Bool}{X:World→Array Value→Prop}
 (hX:∀ (w w':World) (args:Array Value),w.heap=w'.heap→X w args→X w' args)
 (own:ownKnob C.prog.godebug=none) (started:os.Started) (hfn:C.prog.funcs[f]? = some fn)
 (witness:∃ (w:World) (tape:Tape) (i:Input),w.os=os∧(w.forCall tape i).Shaped C.prog∧i.vars=[]∧Input.okWide C.prog (w.forCall tape i) .any w.heap.size f i ∧
  ((s.pre enc C.prog fn conds apart (w.forCall tape i).memory i.args∧X (w.forCall tape i).memory i.args)∧sizedMet enc C.prog fn (OpenSpec.ofChange s) apart (w.forCall tape i).memory i.args)∧a.holds C.prog (lone (Frame.enter C.prog f i.args .normal) [] (w.forCall tape i)))
 (runs:∀ (W:World) (base:Nat) (args:Array Value) (ds gs:List (DataW H)) (before:List MemPlace),
  (∀(j:Nat) t v,fn.params[j]? = some t→args[j]? = some v→Value.okWide C.prog W .any base t v) →
  DataW.Whole enc C.prog fn.params.toList s.vars apart W args.toList ds gs before →
  (DataW.weightsEach C.prog (fn.params.toList++s.plain.varTypes C.prog) (ds++gs)).all (·≤reachBytes)=true→X W args →
  W.ShapedOpen C.prog →
  (W.tape=fun _ _=>0)→∀ τ d,Proofs.YtlaipigilikmbaaGreatDoor.Cl.Ended C.prog (fun v W'=>s.post enc C.prog fn apart fresh handsOn again W args v W'.blind) (solo (G (Frame.enter C.prog f args .normal) []) (Proofs.YtlaipigilikmbaaGreatDoor.Co.re W τ d)) #[]) :
 ReturnsInLeavingWide a C os f .any (fun w args=>(s.pre enc C.prog fn conds apart w args∧X w args)∧sizedMet enc C.prog fn (OpenSpec.ofChange s) apart w args) (s.post enc C.prog fn apart fresh handsOn again):=by
 refine returnsInLeavingWide_of_good own started witness ?_;intro w tape i _ hsh _ hok hpre _;obtain⟨_,_,_,fn',hfn',_,_,_,_,hval⟩:=hok;have e:fn'=fn:=Option.some.inj (hfn'.symm.trans hfn);subst e;obtain⟨⟨⟨ds,gs,before,hw,hc⟩,hx⟩,hz⟩:=hpre;have hw':=DataW.Whole.of_heap (w':=(w.forCall tape i).blind) (by rfl) hw;obtain⟨M,last,o,w',t',h1,h2,h3,h4⟩:=runs (w.forCall tape i).blind w.heap.size i.args ds gs before hval hw' (hz.weights hw) (hX _ _ _ (by rfl) hx) hsh rfl (w.forCall tape i).tape (w.forCall tape i).drawn;exact⟨M,last,o,w',t',h1,h2,h3,h4⟩
theorem Proofs.YtlaipigilikmbaaGreatDoor.holds_tied_goes(Lk:Looks){p:Pinned}{s:OpenSpec}{c:OpenClaim}(kinds:List LaidKind)(tests:Bool)(har:Bool×String)(lk:Bool)
 (hc:c.holds p s) (hw:c.wfByText s=true) (htie:c.laidByTextAt Lk p kinds tests)
 (hst:c.start=.entering) (hnb:c.noBlocks=false∧c.again=false) (hm:p.checked.prog.mainIs=some (har.1,har.2.toList)) (hn:(!har.1&&har.2.isEmpty&&!lk)=false)
 (hl:∀ f fn,p.checked.prog.funcNamed c.func=some f→p.checked.prog.funcs[f]? = some fn→lk=p.checked.prog.looks []∧∀ (j:Nat) t,fn.params[j]? = some t→p.checked.prog.wantsStandIn t=false)
 (hg:true=c.goesBy p.checked.prog) :
 Claim7.holds p (.plain s) {stood:={row:=c,standIns:=[],harness:=har,looks:=lk},kinds:=[],alts:=[],goes:=true,laidByText:=true,laidKinds:=kinds,laidTests:=tests,laidLooks:=Lk}:=by
 have h6:∀ r:OpenClaim,Claim7.isSixth {stood:={row:=r,standIns:=[],harness:=har,looks:=lk},kinds:=[]}=false:=fun r=>by simpa[Claim7.isSixth] using hn
 refine⟨Claim7.tied_new_at Lk kinds tests (Claim7.new_of_sixth hc har lk hst hnb hm (h6 c) hl) hw,fun D hD=>?_,htie,(fun h=>by cases h),hg⟩;cases hD
end Go
namespace Go.Proofs.YtlaipigilikmbaaGreatDoor
noncomputable section
section
open Go.ChangeShapes Go.WideShapes RowKit ToldW
theorem own:ownKnob Tryz.prog.godebug=none:=by kernel_rfl
theorem laidOut:laidOutB Tryz.prog=true:=by kernel_rfl
theorem et:Tryz.prog.globalNamed "errors.errorType"=some 0:=by kernel_rfl
theorem rt:(Tryz.prog.cutTypes.find? (·.1== "internal/reflectlite.rtype")).map (·.2)=some 161:=by kernel_rfl
theorem oneRow:((List.range 231).filter fun t=>Tryz.prog.rowNamed t [101,114,114,111,114])=[29]:=by kernel_rfl
theorem tsize:Tryz.prog.types.size=231:=by kernel_rfl
def theList:List (String×DataW Unit):=[("errors.errorType",Rows.laid_errors_errorType)]
theorem handle_of_laid{W:World}(h:laidMetH Tryz.prog theList W):ErrT W:=by
 have h':laidMet Tryz.prog [] W∧handlesMet Tryz.prog theList W:=h;obtain⟨name,u,ty,e1,e2,e3,e4,e5⟩:=h'.2 _ (List.mem_singleton.2 rfl);have en:name=[101,114,114,111,114]:=(Option.some.inj e1).symm;subst en;obtain rfl:=Option.some.inj (rt.symm.trans e2);have hm:ty∈(List.range 231).filter fun t=>Tryz.prog.rowNamed t [101,114,114,111,114]:=List.mem_filter.2 ⟨List.mem_range.2 (by rw[←tsize];exact e3),e4⟩;rw[oneRow]at hm;obtain rfl:=List.mem_singleton.1 hm
 have hh:typeHandle Tryz.prog 29=.pointer (some ⟨2,29,none⟩):=by kernel_rfl
 rw[hh]at e5;unfold ErrT;simpa using World.var?_cell et e5 0
def laidWorld(os:Os):World :=
 let w0:=World.holding Tryz.prog os ⟨#[],#[],[]⟩
 {w0 with heap:=w0.heap.modify 0 fun
  |.cells _ t frozen=>.cells #[.iface 161 (.agg #[.pointer (some ⟨2,29,none⟩)])] t frozen
  |o=>o}
theorem laidWorld_met(os:Os)(args:Array Value):laidMetH Tryz.prog theList ((laidWorld os).forCall (fun _ _=>0) ⟨#[],args,[]⟩).memory :=
 laidMetH_of_parts (laidMet_nil _ _) (by kernel_rfl)
end
