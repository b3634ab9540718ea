/- Texts of this seat,put together: Open,LwLift,LwOpen,LwForm,LwFnd,LwSlot0,LwR0,LwLaw. -/
import Derived.Test.YtlaipigilikmbaaGreatDoorMb1
import Derived.ProofKit
import Derived.OpenShut
import Derived.Carry
import Derived.SizedLaws
import Derived.Lib.SmallJoins
import Derived.Test.YtlaipigilikmbaaGreatDoorMb29
import Derived.Conc.LeavingOf
import Derived.Test.YtlaipigilikmbaaGreatDoorChecked
import Derived.WalkLawsBesides
import Derived.Outline
import Derived.BigQuiet
import Derived.Deep.QuietTactic
import Derived.BigRegion
import Derived.Test.YtlaipigilikmbaaGreatDoorMb14
set_option linter.unusedVariables false
set_option linter.unusedSimpArgs false
namespace Go.Proofs.YtlaipigilikmbaaGreatDoor
noncomputable section
section
open Go.ChangeShapes Go.WideShapes Go.ChangeAt RowKit Go.Deep Go.Joins
section
variable {H:Type}{enc:TypeId×Value→H}{P:Program}{W:World}{t8:TypeId}
end
end
namespace Cl
open Conc Co Ph RowKit
def told(W:World)(b:Nat):Prop:=∃ c e fz,W.heap[b]? = some (.cells c e fz)
theorem told_lt{W:World}{b:Nat}(h:told W b):b<W.heap.size:=by
 obtain⟨c,e,fz,h⟩:=h;exact(Array.getElem?_eq_some_iff.1 h).1
open Classical in
def fmL(G:Nat)(W:World):Fm:=fun r=>if G≤r∧told W (r-G) then some (r-G) else none
theorem fmL_told{G:Nat}{W:World}{b:Nat}(h:told W b):fmL G W (G+b)=some b:=by
 unfold fmL;rw[if_pos ⟨Nat.le_add_right _ _,by rwa[Nat.add_sub_cancel_left]⟩,Nat.add_sub_cancel_left]
theorem jf{G:Nat}{W:World}{r x:Nat}(h:fmL G W r=some x):r=G+x∧told W x:=by
 unfold fmL at h;split at h
 ·rename_i h1;cases h;exact⟨by omega,h1.2⟩
 ·cases h
open Classical in
def clV(G:Nat)(W:World):Value→Value
 |.int k n=>.int k n
 |.slice none n c=>.slice none n c
 |.slice (some a) n c=>if told W a.block then .slice (some ⟨G+a.block,a.off,a.spot⟩) n c else if n=0∧c=0 then .slice (some a) 0 0 else .tuple #[]
 |v=>Classical.choose (lW _ v (Nat.le_refl _))
open Classical in
theorem clV_slice(G:Nat)(W:World)(a:Addr)(n c:Nat):clV G W (.slice (some a) n c)=if told W a.block then(Value.slice (some ⟨G+a.block,a.off,a.spot⟩) n c) else if n=0∧c=0 then Value.slice (some a) 0 0 else Value.tuple #[]:=rfl
theorem clV_rel(ok:FuncId→Bool)(G:Nat)(W:World)(v:Value):VR ok (fmL G W) (clV G W v) v:=by
 unfold clV;split
 ·exact .int _ _
 ·exact .sliceN _ _
 ·rename_i a n c;obtain⟨b,o,s⟩:=a;split
  ·rename_i h;exact .slice (fmL_told h)
  ·split
   ·rename_i h;obtain⟨rfl,rfl⟩:=h;exact .slice0 _ _
   ·exact .wild ⟨(fun _ h=>by cases h),(fun _ h=>by cases h),(fun _ h=>by cases h)⟩
 ·exact Classical.choose_spec (lW _ v (Nat.le_refl _)) ok _
def clA(G:Nat)(W:World):Value→Value
 |.agg xs=>.agg (xs.map (clV G W))
 |v=>clV G W v
theorem ar_cl(ok:FuncId→Bool)(G:Nat)(W:World)(c:Array Value):AR ok (fmL G W) (c.map (clV G W)) c:=⟨by simp,fun i u u' h1 h2=>by
 rw[Array.getElem?_map,h2]at h1;cases h1
 exact clV_rel ok G W u'⟩
theorem clA_rel(ok:FuncId→Bool)(G:Nat)(W:World)(v:Value):VR ok (fmL G W) (clA G W v) v:=by
 unfold clA;split
 ·exact(ar_cl ok G W _).agg
 ·exact clV_rel ok G W v
def clO(G:Nat)(W:World):Obj→Obj
 |.cells c e fz=>.cells (c.map (clV G W)) e (0,c.size+fz.2)
 |_=>.cells #[] 0 (0,0)
def lwW(G:Nat)(W:World):World:={(default:World) with heap:=Array.replicate G (.cells #[] 0 (0,0))++W.heap.map (clO G W)}
theorem lwW_at{G:Nat}{W:World}{b:Nat}{c:Array Value}{e:TypeId}{fz:Nat×Nat}(h:W.heap[b]? = some (.cells c e fz)):(lwW G W).heap[G+b]? = some (.cells (c.map (clV G W)) e (0,c.size+fz.2)):=by
 unfold lwW;rw[Array.getElem?_append_right (by simp)];simp[h,clO]
theorem lwW_gl{G:Nat}{W:World}{r:Nat}(h:r<G):(lwW G W).heap[r]? = some (.cells #[] 0 (0,0)):=by
 unfold lwW;rw[Array.getElem?_append_left (by simpa using h),Array.getElem?_replicate,if_pos h]
theorem lwW_size(G:Nat)(W:World):(lwW G W).heap.size=G+W.heap.size:=by simp[lwW]
theorem ig{G:Nat}{W:World}{b o:Nat}{v:Value}(h:W.cell? ⟨b,o,none⟩=some v):told W b∧(lwW G W).cell? ⟨G+b,o,none⟩=some (clV G W v):=by
 unfold World.cell? at h
 cases hb:W.heap[b]? with
 |none=>simp[hb]at h
 |some ob =>
  rw[hb]at h
  cases ob with
  |cells c e fz =>
   refine⟨⟨c,e,fz,hb⟩,?_⟩;unfold World.cell?;simp only[lwW_at hb]
   have h:c[o]? = some v:=by simpa using h
   simp[h]
  |_=>simp at h
theorem lwW_rel{G:Nat}(W:World)(ok:FuncId→Bool):WR ⟨ok,told W,G⟩ (fmL G W) (Co.re (lwW G W) W.tape W.drawn) W:=by
 refine⟨rfl,rfl,fun r r' h=>?_,fun r s x h1 h2=>?_,fun r r' o h1 h2 h3=>?_,fun x h1 h2=>?_,fun r r' h=>?_,fun r hr=>⟨0,lwW_gl hr⟩,?_⟩
 ·obtain⟨rfl,c,e,fz,hb⟩:=jf h;exact⟨_,_,lwW_at hb,hb,.cells (ar_cl ok G W c) fun o h1 h2=>⟨Nat.zero_le _,by omega⟩⟩
 ·rw[(jf h1).1,(jf h2).1]
 ·obtain⟨rfl,c,e,fz,hb⟩:=jf h1;have h3:(lwW G W).heap[G+r']? = some o:=h3;rw[lwW_at hb]at h3;cases h3;exact⟨_,_,_,rfl,rfl,by simp⟩
 ·have:=told_lt h2;omega
 ·rw[(jf h).1];exact Nat.le_add_right _ _
 ·show _≤(lwW G W).heap.size;rw[lwW_size];exact Nat.le_add_right _ _
theorem lwW_side{G:Nat}(W:World)(ok:FuncId→Bool):Side ⟨ok,told W,G⟩ (fun x=>x<W.heap.size) W (fun _=>False) (fmL G W) W :=
 ⟨fun _ _=>rfl,fun x h=>h,fun x hx=>by
  obtain⟨⟨r,h⟩,h2⟩:=hx
  exact absurd (jf h).2 h2,fun x h=>h.elim,fun x h=>⟨told_lt h,id⟩,Nat.le_refl _,rfl,rfl⟩
theorem lw_slice{G:Nat}{W:World}(A:Option Addr)(n c:Nat)(h:∀ a,A=some a→told W a.block∨n=0∧c=0):∃ A0,clV G W (.slice A n c)=.slice A0 n c∧∀ a,A=some a→told W a.block→A0=some ⟨G+a.block,a.off,a.spot⟩:=by
 cases A with
 |none=>exact⟨none,rfl,fun a e=>by cases e⟩
 |some a =>
  by_cases ht:told W a.block
  ·refine⟨_,by rw[clV_slice,if_pos ht],fun a' e _=>by cases e;rfl⟩
  ·obtain⟨rfl,rfl⟩:=(h a rfl).resolve_left ht
   exact⟨some a,by rw[clV_slice,if_neg ht,if_pos ⟨rfl,rfl⟩],fun a' e h2=>by cases e;exact absurd h2 ht⟩
theorem lw_rd{G:Nat}{W:World}{A:Option Addr}{n c:Nat}{xs:List Value}(hz:∀ a,A=some a→told W a.block∨n=0∧c=0)(h:Rd W A xs)(hx:∀ v∈xs,∃k x,v=.int k x):∃ A0,clV G W (.slice A n c)=.slice A0 n c∧Rd (lwW G W) A0 xs∧(A=none→A0=none):=by
 obtain⟨A0,h1,h2⟩:=lw_slice (G:=G) A n c hz;refine⟨A0,h1,?_,fun e=>by subst e;unfold clV at h1;cases h1;rfl⟩;rcases h with rfl|⟨b,off,rfl,hc⟩
 ·exact Rd.nil _ _
 ·cases xs with
  |nil=>exact Rd.nil _ _
  |cons x xs =>
   have ht:=(ig (G:=G) (hc 0 x rfl)).1;refine .inr ⟨G+b,off,h2 _ rfl ht,fun i u hu=>?_⟩;obtain⟨k,y,rfl⟩:=hx u (List.mem_of_getElem? hu);exact(ig (G:=G) (hc i _ hu)).2
theorem law_wins{P:Program}{Q:Value→World→Prop}{W:World}{ok:FuncId→Bool}{fn:FuncId}{F:Func}{c:Code}{args:Array Value}(hF:P.funcs[fn]? = some F)(hb:F.body=some c)
 (h:WinsR P Q ⟨ok,told W,P.globals.size⟩ (fun x=>x<W.heap.size) W (fun _=>False) [] fn (args.map (clA P.globals.size W)++Array.replicate (F.ntmps-args.size) undef) [.code c] .run (lwW P.globals.size W)) :
 ∀τ d,Ended P Q (solo (G (Frame.enter P fn args .normal) []) (Co.re W τ d)) #[]:=by
 intro τ d
 have hw:Wins P Q (fun _=>False) (G (Frame.enter P fn args .normal) []) W:=by
  rw[Go.Conc.enter_at args hF hb];refine h (fmL P.globals.size W) _ W ?_ (lwW_rel W ok) (lwW_side W ok);refine AR.append ⟨by simp,fun i u u' h1 h2=>?_⟩ (AR.flat fun u hu=>by obtain⟨-,rfl⟩:=Array.mem_replicate.1 hu;exact dm);rw[Array.getElem?_map,h2]at h1;cases h1;exact clA_rel ok _ W u'
 have hp:=past_nil;refine hw #[G (Frame.enter P fn args .normal) []] none #[] (fun _=>0) τ d rfl ⟨fun i g h0 hi=>?_,fun j hj=>rfl⟩ ⟨hp.clean,fun i a hi=>?_,hp.over,hp.hears,fun op h=>by simp at h⟩
 ·have:=(Array.getElem?_eq_some_iff.1 hi).1;simp at this;omega
 ·rcases hp.known i a hi with h;intro hm;rcases h hm with h1|h1
  ·exact .inl h1
  ·exact h1.1.elim
end Cl
namespace Cl
open Go.ChangeShapes Go.WideShapes Go.ChangeAt RowKit Go.Deep Go.Joins
open Conc Co Ph
theorem ou{W:World}{b o:Nat}{v:Value}(h:W.cell? ⟨b,o,none⟩=some v):told W b:=(ig (G:=0) h).1
section
variable {H:Type}{enc:TypeId×Value→H}{P:Program}{W:World}
end
end Cl
end
end Go.Proofs.YtlaipigilikmbaaGreatDoor
namespace Go
open Go.Conc
end Go
namespace Go.Proofs.YtlaipigilikmbaaGreatDoor
noncomputable section
namespace Cl
open Conc Co Ph RowKit
def intsB:Obj→Bool
 |.cells c _ _=>c.all fun|.int _ _=>true|_=>false
 |_=>false
theorem co_ints{o:Obj}(h:intsB o=true)(E:Ev):CO E o:=by
 cases o with
 |cells c e fz =>
  refine .cells fun u hu=>?_;simp only[intsB,Array.all_eq_true_iff_forall_mem]at h;have:=h u hu
  cases u with
  |int k n=>exact .int k n
  |_=>cases this
 |_=>cases h
theorem begin_ty:(((begin Tryz.prog (fun _ _=>0) default).world.heap[Tryz.prog.globals.size]?).map intsB)=some true:=by kernel_rfl
theorem shaped_ty{W:World}(h:W.ShapedOpen Tryz.prog):Tryz.prog.globals.size<W.heap.size∧∀ E:Ev,∀o,W.heap[Tryz.prog.globals.size]? = some o→CO E o:=by
 obtain⟨o0,h1,h2⟩:=Option.map_eq_some_iff.1 begin_ty;obtain⟨o,o',k1,k2,k3⟩:=h.2 Tryz.prog.globals.size (Nat.le_refl _) (Array.getElem?_eq_some_iff.1 h1).1;rw[Nat.sub_self,if_neg (by decide)]at k3;subst k3;rw[h1]at k2;cases k2;refine⟨(Array.getElem?_eq_some_iff.1 k1).1,fun E o ho=>?_⟩;rw[k1]at ho;cases ho;exact co_ints h2 E
theorem law_ok{W:World}(h:W.ShapedOpen Tryz.prog)(ok:FuncId→Bool)(ro:Nat→Prop):LawOk ⟨ok,ro,Tryz.prog.globals.size⟩ (fun x=>x<W.heap.size) W :=
 ⟨rfl,fun x hx=>Nat.lt_of_le_of_lt hx (shaped_ty h).1,(shaped_ty h).2⟩
end Cl
namespace LwW
open RowKit
def RdF(w:World)(A:Option Addr)(n:Nat)(a p s k:Nat→Int):Prop:=∀ i,i<n→∃ b off,A=some ⟨b,off,none⟩∧w.cell? ⟨b,off+i*4,none⟩=some (.int .i64 (a i))∧w.cell? ⟨b,off+i*4+1,none⟩=some (.int .i64 (p i))∧w.cell? ⟨b,off+i*4+2,none⟩=some (.int .i64 (s i))∧w.cell? ⟨b,off+i*4+3,none⟩=some (.int .i64 (k i))
def i64v(l:List Int):List Value:=l.map fun x=>.int .i64 x
end LwW
section
theorem slots_of(N:Nat)(t:Array Value)(h:t.size=N):t=Array.ofFn fun j:Fin N=>t.getD j.1 undef:=by
 subst h;refine Array.ext (by simp) fun i h1 h2=>?_;rw[Array.getElem_ofFn,Array.getD_eq_getD_getElem?,Array.getElem?_eq_getElem h1];rfl
theorem getD_of{t:Array Value}{i:Nat}{v:Value}(h:t[i]? = some v):t.getD i undef=v:=by
 rw[Array.getD_eq_getD_getElem?,h];rfl
end
namespace Cl
open RowKit
def HB(a b:Array Obj):Prop:=a.size≤b.size∧∀ k,k<a.size→b[k]? = a[k]?
theorem HB.refl(a:Array Obj):HB a a:=⟨Nat.le_refl _,fun _ _=>rfl⟩
theorem HB.trans{a b c:Array Obj}(h:HB a b)(k:HB b c):HB a c:=⟨Nat.le_trans h.1 k.1,fun i hi=>(k.2 i (Nat.lt_of_lt_of_le hi h.1)).trans (h.2 i hi)⟩
theorem HB.of{w w':World}(h:Below w.heap.size w w'):HB w.heap w'.heap:=⟨h.size,h.block⟩
def hW(h:Array Obj):World:={(default:World) with heap:=h}
theorem own_hW{w:World}{base:Nat}{e:TypeId}{z n:Nat}{v:Value}{xs:List Value}(h:w.ownsRow base e z v n xs):(hW w.heap).ownsRow base e z v n xs:=h
theorem own_of_hW{w:World}{base:Nat}{e:TypeId}{z n:Nat}{v:Value}{xs:List Value}(h:(hW w.heap).ownsRow base e z v n xs):w.ownsRow base e z v n xs:=h
def Kp(N:Nat)(S:List Nat)(u:Nat→Value)(t:Array Value):Prop:=t.size=N∧∀ s∈S,t[s]? = some (u s)
def RK(N:Nat)(S:List Nat)(w:World)(u:Nat→Value)(t:Array Value)(h:Array Obj):Prop:=Kp N S u t∧h=w.heap
def RV(N:Nat)(S:List Nat)(d:Nat)(v:Value)(w:World)(u:Nat→Value)(t:Array Value)(h:Array Obj):Prop:=Kp N S u t∧h=w.heap∧t[d]? = some v
def RX(N:Nat)(d:Nat)(v:Value)(t:Array Value)(h:Array Obj):Prop:=t.size=N∧t[d]? = some v
end Cl
namespace Cl
open Conc Co Ph RowKit LwW OpenW
section
variable {P:Program}{Q:Value→World→Prop}{E:Env}{K Z:Nat→Prop}{W:World}{cs:List Frame}{fn:FuncId}{t:Array Value}{todo k:List Item}{m:FrameMode}{w0 w:World}{f:Fm}
theorem lwp(hS:Sound P E){R:Array Value→Array Obj→Prop}{c:Code}(hF:∃ F,P.funcs[fn]? = some F)(hc:Co.OkCode P E c)
 (h:∀ τ d,c.wp P (fun e a w'=>e=.normal∧R a.tmps w'.heap) ⟨t,[]⟩ (Co.re w0 τ d)) (hn:∀ t2 u,R t2 u.heap→WinsR P Q E K W Z cs fn t2 k .run u):WinsR P Q E K W Z cs fn t (.code c::k) .run w0:=by
 refine iM hS (R:=fun x t h=>x=false∧R t h) hF hc (fun τ d=>?_) (fun t2 u h2=>hn t2 u h2.2) (fun t2 u todo h2=>by cases h2.1);refine Code.wp_mono (fun e a w1 h=>?_) (h τ d);obtain⟨rfl,h⟩:=h;exact⟨rfl,h⟩
theorem lret(hS:Sound P E){R:Array Value→Array Obj→Prop}{c:Code}(hF:∃ F,P.funcs[fn]? = some F)(hc:Co.OkCode P E c)
 (h:∀ τ d,c.wp P (fun e a w'=>e=.ret∧R a.tmps w'.heap) ⟨t,[]⟩ (Co.re w0 τ d)) (hn:∀ t2 u todo,R t2 u.heap→WinsR P Q E K W Z cs fn t2 todo .returning u):WinsR P Q E K W Z cs fn t (.code c::k) .run w0:=by
 refine iM hS (R:=fun x t h=>x=true∧R t h) hF hc (fun τ d=>?_) (fun t2 u h2=>by cases h2.1) (fun t2 u todo h2=>hn t2 u todo h2.2);refine Code.wp_mono (fun e a w1 h=>?_) (h τ d);obtain⟨rfl,h⟩:=h;exact⟨rfl,h⟩
end
theorem HB.cell{w w':World}(h:HB w.heap w'.heap){a:Addr}{v:Value}(hv:w.cell? a=some v):w'.cell? a=some v:=by
 have hb:a.block<w.heap.size:=World.block_lt_of_cell? w _ hv;unfold World.cell? at hv⊢;rw[h.2 _ hb];exact hv
theorem HB.pg{w w':World}(h:HB w.heap w'.heap){v:Value}{l:List UInt8}(hp:PgAt w v l):PgAt w' v l:=by
 cases hp with
 |nil=>exact .nil
 |zero a=>exact .zero a
 |row a1 a2 a3 a4 hb a6=>exact .row a1 a2 a3 a4 (by rw[h.2 _ (Array.getElem?_eq_some_iff.1 hb).1];exact hb) a6
theorem HB.args{w w':World}(h:HB w.heap w'.heap){A:Option Addr}{L:Nat}{pg:Nat→List UInt8}(ha:LArgs w A L pg):LArgs w' A L pg:=fun k hk=>by
 obtain⟨b,off,pv,e1,e2,e3⟩:=ha k hk;exact⟨b,off,pv,e1,h.cell e2,h.pg e3⟩
theorem HB.own{w w':World}(h:HB w.heap w'.heap){base size n:Nat}{e:TypeId}{v:Value}{xs:List Value}(ho:w.ownsRow base e size v n xs):w'.ownsRow base e size v n xs:=by
 refine⟨ho.1,ho.2.imp id ?_⟩;rintro⟨g,cap,cur,h1,h2,h3,h4⟩;exact⟨g,cap,cur,h1,h2,by rw[h.2 _ (Array.getElem?_eq_some_iff.1 h3).1];exact h3,h4⟩
theorem HB.rd{w w':World}(h:HB w.heap w'.heap){A:Option Addr}{xs:List Value}(hr:Rd w A xs):Rd w' A xs:=hr.keep h.2
theorem pg_own{w:World}{base n c:Nat}{D:Option Addr}{l:List UInt8}(h:w.ownsRow base 5 1 (.slice D n c) n (u8v l))(hn:0<n):PgAt w (.slice D n c) l:=by
 have hl:l.length=n:=by have:=h.1;rw[aC]at this;omega
 rcases h.2 with⟨-,h0⟩|⟨g,cap,cur,hv,hb,hg,hnc,hm,hs,ht⟩
 ·omega
 ·injection hv with e1 e2 e3;subst e1 e3;refine .row hl.symm (by omega) hnc (by simp only[maxLen]at hm;omega) hg fun i x hx=>?_
  have h1:(u8v l)[i]? = some (.int .u8 x.toNat):=by simp[u8v,hx]
  rw[←ht,List.getElem?_take]at h1;split at h1
  ·rw[Nat.zero_add];simpa using h1
  ·cases h1
theorem rdF_own{w:World}{base n c:Nat}{D:Option Addr}{S:Nat→Fnd}(h:w.ownsRow base 60 4 (.slice D n c) n (flatF S n)):RdF w D n (fun i=>(S i).lba) (fun i=>(S i).page) (fun i=>(S i).seq) (fun i=>(S i).kind):=by
 intro i hi;rcases h.2 with⟨hv,hn⟩|⟨g,cap,cur,hv,hb,hg,hnc,hm,hs,ht⟩
 ·omega
 ·injection hv with hA;subst hA
  have hc:∀ j u,j<4→[Value.int .i64 (S i).lba,.int .i64 (S i).page,.int .i64 (S i).seq,.int .i64 (S i).kind][j]? = some u→w.cell? ⟨g,0+i*4+j,none⟩=some u:=by
   intro j u hj hu;have h1:=flatF_at S n i j hi u hu;rw[←ht,List.getElem?_take,if_pos (by omega)]at h1;unfold World.cell?;simp only[hg,Nat.zero_add];simpa using h1
  exact⟨g,0,rfl,hc 0 _ (by omega) rfl,hc 1 _ (by omega) rfl,hc 2 _ (by omega) rfl,hc 3 _ (by omega) rfl⟩
def pk:List UInt8:=Fram.pack 24 1 3 1 []
theorem one_page{pg:Nat→List UInt8}{l:List Fnd}(hc:dJ pg 0)(h:NewI pg 1 l):l=[fndOf pg 0]:=by
 refine h.uniq (m:=[fndOf pg 0]) ⟨by simp,fun e he=>⟨0,by omega,hc,by simpa using he⟩,fun e he j hj _ _=>?_,fun k hk _=>⟨_,List.mem_singleton.2 rfl,by have h0:k=0:=(by omega);rw[h0]⟩⟩
 obtain rfl:j=0:=by omega
 rw[List.mem_singleton.1 he];exact better_irr _
end Cl
