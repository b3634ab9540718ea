/- Texts of this seat,put together: LwTake,LwRead,Protect,OneW,OneL. -/
import Derived.Test.YtlaipigilikmbaaGreatDoorMb35
import Derived.Test.YtlaipigilikmbaaGreatDoorMb1
import Derived.Test.YtlaipigilikmbaaGreatDoorMb12
import Derived.Test.YtlaipigilikmbaaGreatDoorMb13
import Derived.Deep.RegionHeld3
import Derived.Lib.Hide
import Derived.Test.YtlaipigilikmbaaGreatDoorMb14
import Derived.Test.YtlaipigilikmbaaGreatDoorMb7
import Derived.Test.YtlaipigilikmbaaGreatDoorMb30
namespace Go.Proofs.YtlaipigilikmbaaGreatDoor
noncomputable section
set_option linter.unusedVariables false
set_option linter.unusedSimpArgs false
namespace Cl
open Conc Co Ph RowKit RecW Rec
def KeepI(cur cr:Array Value):Prop:=cr.size=cur.size∧∀ (i:Nat) (k:IntKind) (n:Int),cur[i]? = some (.int k n)→cr[i]? = some (.int k n)
theorem keepI_ex{ok:FuncId→Bool}{f:Fm}(cur:Array Value):∃ cr,AR ok f cr cur∧KeepI cur cr:=by
 obtain⟨cr,h1,h2⟩:=row_ex (ok:=ok) (f:=f) cur (fun i=>match cur[i]? with|some (.int k n)=>some (.int k n)|_=>none) (fun i u u' a b=>by
  rw[b]at a
  cases u' with
  |int k n=>cases a;exact .int _ _
  |_=>cases a)
 refine⟨cr,h1,h1.size,fun i k n hi=>?_⟩;exact h2 i _ (by rw[hi]) (Array.getElem?_eq_some_iff.1 hi).1
theorem keepI_take{cur cr:Array Value}(h:KeepI cur cr){m:Nat}{xs:List Value}(hx:∀ v∈xs,∃k x,v=.int k x)(ht:cur.toList.take m=xs):cr.toList.take m=xs:=by
 refine List.ext_getElem? fun i=>?_
 have h0:(cur.toList.take m)[i]? = xs[i]?:=by rw[ht]
 rw[List.getElem?_take]at h0⊢;split
 ·rename_i hi;rw[if_pos hi]at h0;rw[←h0]
  cases hc:xs[i]? with
  |none =>
   rw[hc]at h0
   have h1:cur.size≤i:=by simpa using h0
   rw[hc]at *;rw[h0];have:=h.1;simp;omega
  |some v =>
   obtain⟨k,x,rfl⟩:=hx v (List.mem_of_getElem? hc);rw[hc]at h0;rw[h0];have:=h.2 i k x (by simpa using h0);simpa using this
 ·rename_i hi;rw[if_neg hi]at h0;exact h0
structure Tk(E:Env)(f0:Fm)(w0 w':World)(base:Nat)(f:Fm)(u:World)(R:List (List Ent×Value)):Prop where
 le:f0.le f
 rel:WR E f (Co.re u w'.tape w'.drawn) w'
 bel:Below w0.heap.size w0 u
 dom:∀ r x,f r=some x→f0 r=some x∨(base≤x∧w0.heap.size≤r∧∃ cur cr,w'.heap[x]? = some (.cells cur 64 (0,0))∧u.heap[r]? = some (.cells cr 64 (0,0))∧KeepI cur cr)
 vals:∀ r∈R,∃v0,VR E.ok f v0 r.2∧u.ownsRow w0.heap.size 64 3 v0 r.1.length (entv r.1)
theorem entv_int:∀ (es:List Ent),∀v∈entv es,∃k x,v=.int k x
 |[],v,h=>by simp[entv]at h
 |e::es,v,h=>by
  simp only[entv,List.mem_cons]at h;rcases h with rfl|rfl|rfl|h
  ·exact⟨_,_,rfl⟩
  ·exact⟨_,_,rfl⟩
  ·exact⟨_,_,rfl⟩
  ·exact entv_int es v h
theorem own_push{w:World}{base:Nat}{e:TypeId}{z n:Nat}{v:Value}{xs:List Value}(h:w.ownsRow base e z v n xs)(o:Obj):({w with heap:=w.heap.push o}:World).ownsRow base e z v n xs:=by
 refine⟨h.1,h.2.imp id ?_⟩;rintro⟨g,cap,cur,h1,h2,h3,h4⟩;refine⟨g,cap,cur,h1,h2,?_,h4⟩;have:=(Array.getElem?_eq_some_iff.1 h3).1;simp only[Array.getElem?_push];rw[if_neg (by omega)];exact h3
theorem take_ents{E:Env}{f0:Fm}{w0 w':World}{base:Nat}(h0:WR E f0 (Co.re w0 w'.tape w'.drawn) w')(hf0:∀ r x,f0 r=some x→x<base)(hro:∀ x,E.ro x→x<base):∀ (R:List (List Ent×Value)),(∀r∈R,aV w' base r.2 r.1)→∃ f u,Tk E f0 w0 w' base f u R
 |[],_=>⟨f0,w0,f0.le_refl,h0,Below.refl _ _,fun r x h=>.inl h,fun r hr=>by cases hr⟩
 |p::R,h=>by
  obtain⟨f,u,t1,t2,t3,t4,t5⟩:=take_ents h0 hf0 hro R fun r hr=>h r (List.mem_cons_of_mem _ hr);have hp:=h p (List.mem_cons_self ..);rcases hp.2 with⟨hv,hn⟩|⟨b,cap,cur,hv,hb,hg,hnc,hm,hs,ht⟩
  ·refine⟨f,u,t1,t2,t3,t4,fun r hr=>?_⟩;rcases List.mem_cons.1 hr with rfl|hr
   ·rw[hv];exact⟨_,.sliceN _ _,⟨hp.1,.inl ⟨rfl,hn⟩⟩⟩
   ·exact t5 r hr
  ·by_cases hex:∃ r0,f r0=some b
   ·obtain⟨r0,hr0⟩:=hex;rcases t4 r0 b hr0 with h1|⟨-,h2,cur2,cr,h3,h4,h5⟩
    ·have:=hf0 _ _ h1;omega
    ·rw[hg]at h3;cases h3;refine⟨f,u,t1,t2,t3,t4,fun r hr=>?_⟩;rcases List.mem_cons.1 hr with rfl|hr
     ·rw[hv];exact⟨_,.slice hr0,⟨hp.1,.inr ⟨r0,cap,cr,rfl,h2,h4,hnc,hm,by rw[h5.1,hs],keepI_take h5 (entv_int _) ht⟩⟩⟩
     ·exact t5 r hr
   ·obtain⟨cr,hcr,hke⟩:=keepI_ex (ok:=E.ok) (f:=f.add u.heap.size b) cur
    have hnro:¬ E.ro b:=fun hr=>by have:=hro b hr;omega
    have hob:=WR.take (w:=Co.re u w'.tape w'.drawn) t2 hg (fun r hr=>hex ⟨r,hr⟩) hnro (o:=.cells cr 64 (0,0)) (.cells hcr fun o a1 a2=>absurd a2 (Nat.not_lt_zero o))
    have hle:f.le (f.add u.heap.size b):=fun q x e=>by
     unfold Fm.add;rw[if_neg (by have:=(t2.lt e).1;simp only[dw]at this;omega)];exact e
    have hfb:(f.add u.heap.size b) u.heap.size=some b:=by unfold Fm.add;exact if_pos rfl
    refine⟨f.add u.heap.size b,{u with heap:=u.heap.push (.cells cr 64 (0,0))},fun q x e=>hle _ _ (t1 _ _ e),hob,Below.alloc t3 t3.size _,fun r x hr=>?_,fun r hr=>?_⟩
    ·unfold Fm.add at hr;split at hr
     ·rename_i e;cases hr;subst e;refine .inr ⟨hb,t3.size,cur,cr,hg,?_,hke⟩;simp
     ·rcases t4 r x hr with h1|⟨h2,h3,cur2,cr2,h4,h5,h6⟩
      ·exact .inl h1
      ·refine .inr ⟨h2,h3,cur2,cr2,h4,?_,h6⟩;have:=(Array.getElem?_eq_some_iff.1 h5).1;simp only[Array.getElem?_push];rw[if_neg (by omega)];exact h5
    ·rcases List.mem_cons.1 hr with rfl|hr
     ·rw[hv];exact⟨_,.slice hfb,⟨hp.1,.inr ⟨u.heap.size,cap,cr,rfl,t3.size,by simp,hnc,hm,by rw[hke.1,hs],keepI_take hke (entv_int _) ht⟩⟩⟩
     ·obtain⟨v0,a1,a2⟩:=t5 r hr;exact⟨v0,a1.mono hle,own_push a2 _⟩
theorem vals_list{E:Env}{f:Fm}{u:World}{B:Nat}:∀ (R:List (List Ent×Value)),(∀r∈R,∃v0,VR E.ok f v0 r.2∧u.ownsRow B 64 3 v0 r.1.length (entv r.1)) →
 ∃R0:List (List Ent×Value),R0.map (·.1)=R.map (·.1)∧(∀r∈R0,aV u B r.2 r.1)∧∀ (i:Nat) r r0,R[i]? = some r→R0[i]? = some r0→VR E.ok f r0.2 r.2
 |[],_=>⟨[],rfl,fun r hr=>(by cases hr),fun i r r0 h=>(by simp at h)⟩
 |p::R,h=>by
  obtain⟨R0,h1,h2,h3⟩:=vals_list R fun r hr=>h r (List.mem_cons_of_mem _ hr);obtain⟨v0,h4,h5⟩:=h p (List.mem_cons_self ..);refine⟨(p.1,v0)::R0,by simp[h1],fun r hr=>?_,fun i r r0 a b=>?_⟩
  ·rcases List.mem_cons.1 hr with rfl|hr
   ·exact h5
   ·exact h2 r hr
  ·cases i with
   |zero =>
    simp only[List.getElem?_cons_zero,Option.some.injEq]at a b;subst a b;exact h4
   |succ i=>exact h3 i r r0 (by simpa using a) (by simpa using b)
theorem take_bats{E:Env}{f0:Fm}{w0 w':World}{base:Nat}{v:Value}{ls:List (List Ent)}(h0:WR E f0 (Co.re w0 w'.tape w'.drawn) w')(hf0:∀ r x,f0 r=some x→x<base)(hro:∀ x,E.ro x→x<base)(h:dh w' base v ls) :
 ∃(g:Fm) (v0:Value) (u:World),f0.le g∧VR E.ok g v0 v∧WR E g (Co.re u w'.tape w'.drawn) w'∧Below w0.heap.size w0 u∧dh u w0.heap.size v0 ls∧∀ r x,g r=some x→f0 r=some x∨base≤x:=by
 obtain⟨R,a,b,d⟩:=h;obtain⟨f,u,t1,t2,t3,t4,t5⟩:=take_ents h0 hf0 hro R d;obtain⟨R0,r1,r2,r3⟩:=vals_list R t5
 have hlen:R0.length=R.length:=by simpa using congrArg List.length r1
 have hdom:∀ r x,f r=some x→f0 r=some x∨base≤x:=fun r x hr=>(t4 r x hr).imp id fun h=>h.1;rcases b.2 with⟨hv,hn⟩|⟨bo,cap,cur,hv,hb,hg,hnc,hm,hs,ht⟩
 ·refine⟨f,.slice none 0 0,u,t1,by rw[hv];exact .sliceN _ _,t2,t3,⟨R0,r1.trans a,⟨?_,.inl ⟨rfl,hn⟩⟩,r2⟩,hdom⟩;have h1:=b.1;simp only[List.length_map]at h1⊢;omega
 ·have hex:∀ r,f r≠some bo:=fun r hr=>by
   rcases t4 r bo hr with h1|⟨-,-,cur2,cr,h3,-⟩
   ·have:=hf0 _ _ h1;omega
   ·rw[hg]at h3;injection h3 with h3;injection h3 with _ h3;exact absurd h3 (by decide)
  have hnro:¬ E.ro bo:=fun hr=>by have:=hro bo hr;omega
  obtain⟨cr,hcr,hcell⟩:=row_ex (ok:=E.ok) (f:=f.add u.heap.size bo) cur (fun i=>(R0[i]?).map (·.2)) (fun i x x' a1 a2=>by
   obtain⟨r0,q1,rfl⟩:=Option.map_eq_some_iff.1 a1
   have hi:i<R.length:=by rw[←hlen];exact(List.getElem?_eq_some_iff.1 q1).1
   have q2:R[i]? = some R[i]:=List.getElem?_eq_getElem hi
   have q3:(cur.toList.take (ls.length*1))[i]? = some R[i].2:=by rw[ht,List.getElem?_map,q2];rfl
   rw[List.getElem?_take]at q3;split at q3
   ·have q4:cur[i]? = some R[i].2:=by simpa using q3
    rw[q4]at a2;cases a2;refine(r3 i _ _ q2 q1).mono fun q y e=>?_;unfold Fm.add;rw[if_neg (by have:=(t2.lt e).1;simp only[dw]at this;omega)];exact e
   ·cases q3)
  have hob:=WR.take (w:=Co.re u w'.tape w'.drawn) t2 hg hex hnro (o:=.cells cr 27 (0,0)) (.cells hcr fun o a1 a2=>absurd a2 (Nat.not_lt_zero o))
  have hle:f.le (f.add u.heap.size bo):=fun q x e=>by
   unfold Fm.add;rw[if_neg (by have:=(t2.lt e).1;simp only[dw]at this;omega)];exact e
  have hfb:(f.add u.heap.size bo) u.heap.size=some bo:=by unfold Fm.add;exact if_pos rfl
  have hll:ls.length=R0.length:=by rw[←a,List.length_map,hlen]
  refine⟨f.add u.heap.size bo,.slice (some ⟨u.heap.size,0,none⟩) ls.length cap,{u with heap:=u.heap.push (.cells cr 27 (0,0))},fun q x e=>hle _ _ (t1 _ _ e),by rw[hv];exact .slice hfb,hob,Below.alloc t3 t3.size _,⟨R0,r1.trans a,⟨by simp;omega,.inr ⟨u.heap.size,cap,cr,rfl,t3.size,by simp,hnc,hm,by rw[hcr.size,hs],?_⟩⟩,fun r hr=>own_push (r2 r hr) _⟩,fun r x hr=>?_⟩
  ·refine List.ext_getElem? fun i=>?_;rw[List.getElem?_take,List.getElem?_map];by_cases hi:i<R0.length
   ·rw[if_pos (by omega)];have hm1:ls.length*1≤cap*1:=Nat.mul_le_mul_right _ hnc;have q1:R0[i]? = some R0[i]:=List.getElem?_eq_getElem hi;have:=hcell i R0[i].2 (by rw[q1];rfl) (by omega);rw[q1];simpa using this
   ·rw[if_neg (by omega),List.getElem?_eq_none (by omega)];rfl
  ·unfold Fm.add at hr;split at hr
   ·cases hr;exact .inr hb
   ·exact hdom r x hr
end Cl
namespace Cl
open Conc Co Ph RowKit RecW Rec
section
variable {Q:Value→World→Prop}{E:Env}{K Z:Nat→Prop}{W:World}{cs:List Frame}{fn:FuncId}{t:Array Value}{k:List Item}{w0:World}
theorem winsR_read(hbat:nJ){ops:Array Oper}{i:Nat}{rest:List Nat}{o:Oper}{x:Operand}{b c:Nat}{cur:Array Value}{l:List UInt8}(hl:LawOk E K W)(hKZ:∀ x,K x→¬ Z x)
 (ho:ops[i]? = some o) (hw:∀ t',Region.wanted o (yielded ops t')=true) (hxo:Co.OkX E x)
 (hr:∀ t' w,(execOp (Act.eval ⟨t',[]⟩) o).run Tryz.prog w=.ok (.enter 12 #[Act.eval ⟨t',[]⟩ x]) w) (hev:∀ t' w,(execOp (Act.eval ⟨t',[]⟩) o).events Tryz.prog w #[]=#[])
 (hx:Act.eval ⟨t,[]⟩ x=.slice (some ⟨b,0,none⟩) l.length c) (hb:w0.heap[b]? = some (.cells cur 5 (0,0))) (hci:∀ u∈cur,∃k n,u=.int k n) (hlc:l.length≤c) (hc0:0<c) (hl9:l.length≤1000000000) (ra:Rd w0 (some ⟨b,0,none⟩) (u8v l))
 (hyes:∀ (v0:Value) (u:World),dh u w0.heap.size v0 (Rec.read l).1→Below w0.heap.size w0 u→WinsR Tryz.prog Q E K W Z cs fn (Act.put ⟨t,[]⟩ o.dst (.tuple #[v0,.int .i64 ((l.length-(Rec.read l).2.length:Nat):Int)])).tmps (.inRegion ops rest::k) .run u):WinsR Tryz.prog Q E K W Z cs fn t (.inRegion ops (i::rest)::k) .run w0:=by
 refine winsR_cl (F:=12) (xs:=#[x]) (vs:=#[.slice (some ⟨b,0,none⟩) l.length c]) (B:=fun y=>y=b) (R:=fun vs' w v w'=>∃ v1,v=.tuple #[v1,.int .i64 ((l.length-(Rec.read l).2.length:Nat):Int)]∧dh w' w.heap.size v1 (Rec.read l).1) hl hKZ ho hw (fun z hz=>?_) (fun t' w=>by simpa using hr t' w) hev (by decide) (by simp[hx]) (fun u hu=>?_) (fun y hy=>⟨cur,5,(0,0),by rw[hy];exact hb,hci⟩) (fun vs' w v w' τ d h=>h) ?_ ?_
 ·simp only[List.mem_toArray,List.mem_cons,List.not_mem_nil,or_false]at hz;subst hz;exact hxo
 ·simp only[List.mem_toArray,List.mem_cons,List.not_mem_nil,or_false]at hu;subst hu;exact .inr ⟨_,_,_,rfl,fun ad hd=>by cases hd;exact⟨rfl,hc0⟩⟩
 ·intro f vs' w har hwr τ dd;obtain⟨u0,g0,v0⟩:=har.get (i:=0) rfl
  have hvs:vs'=#[u0]:=by
   have hs:=har.size;refine Array.ext (by simpa using hs.symm) fun j h1 h2=>?_;rcases j with _|j
   ·rw[Array.getElem?_eq_getElem h1]at g0;exact Option.some.inj g0
   ·simp at h2
  rw[hvs];generalize hN:l.length=N at v0
  cases v0 with
  |@slice _ b' _ _ _ _ h =>
   subst hN;obtain⟨ob,ob',k1,k2,k3⟩:=hwr.obj _ _ h;rw[show(Co.re w0 w.tape w.drawn).heap[b]? = _ from hb]at k1;cases k1;have hrd:=rd_of hwr (.slice (n:=l.length) (c:=c) h) (show Rd (Co.re w0 w.tape w.drawn) (some ⟨b,0,none⟩) (u8v l) from ra);obtain⟨A',e1,hrd⟩:=hrd;cases e1;refine(read_any hbat _ c l (Co.re w τ dd) ⟨hlc,by omega,.inr ?_,hrd (.inl hc0)⟩ hl9).mono ?_
   ·intro ad e;cases e;exact .inl (hwr.lt h).2
   ·rintro e w' ⟨v1,rfl,h1,h2⟩;exact⟨⟨v1,rfl,h1⟩,h2.size,h2.block⟩
  |slice0 a a'=>exact absurd hc0 (Nat.lt_irrefl _)
 ·rintro f vs' w v w' cc har hwr hs hsz hfl hrol hzl hkl ⟨v1,rfl,h1⟩ hfin;obtain⟨g,v0,u,g1,g2,g3,g4,g5,g6⟩:=take_bats hwr hfl hrol h1;refine hfin _ g u g1 (AR.tuple ((AR.empty.push g2).push (.int _ _))) g3 ⟨hs.old,hs.low,fun z hz=>?_,hs.zed,hs.ro,hs.size,hs.still⟩ (hyes v0 u g5 g4);obtain⟨⟨r,er⟩,hnr⟩:=hz;rcases g6 r z er with h9|h9
  ·exact hs.own z ⟨⟨r,h9⟩,hnr⟩
  ·exact⟨fun hk'=>by have:=hkl _ hk';omega,fun hz'=>by have:=hzl _ hz';omega⟩
end
end Cl
namespace ProtectW
open RowKit Pop PlacesW WordW
theorem mask_lt(j:Nat):mk j 64<18446744073709551616:=by have:=mk_lt j 64;omega
def wordAt(l:List UInt8)(i:Nat):Nat:=le ((l.drop (8*i)).take 8)
theorem wordAt_lt(l:List UInt8)(i:Nat):wordAt l i<18446744073709551616:=by
 have h:=le_lt ((l.drop (8*i)).take 8)
 have h2:((l.drop (8*i)).take 8).length≤8:=by simp;omega
 have h3:(256:Nat)^((l.drop (8*i)).take 8).length≤256^8:=Nat.pow_le_pow_right (by omega) h2;unfold wordAt;omega
def chk(x:Nat):Nat:=chkBy (fun j=>mk j 64) x
theorem chk_lt(x:Nat):chk x<256:=by
 have:=par7_lt (fun j=>mk j 64) x 7;unfold chk chkBy;omega
def prot(l:List UInt8)(k:Nat):List UInt8:=(List.range k).map fun i=>UInt8.ofNat (chk (wordAt l i))
theorem prot_succ(l:List UInt8)(k:Nat):prot l (k+1)=prot l k++[UInt8.ofNat (chk (wordAt l k))]:=by simp[prot,List.range_succ]
theorem u8v_prot_succ(l:List UInt8)(k:Nat):u8v (prot l (k+1))=u8v (prot l k)++[.int .u8 (chk (wordAt l k):Nat)]:=by
 rw[prot_succ,lC]
 congr 1
 have:=chk_lt (wordAt l k);simp[u8v];omega
theorem word_at(A:Option Addr)(l:List UInt8)(i n cap:Nat)(w:World)(hn:n=(l.drop (8*i)).length)(h8:8≤n)(hr:Rd w A (u8v (l.drop (8*i)))) :
 Calls Tryz.prog 41 #[.slice A n cap] w fun e w'=>e=.returned (.int .u64 (wordAt l i))∧w=w' :=
 word_any A (l.drop (8*i)) n cap w hn (by omega) hr
theorem check_at(x:Nat)(hx:x<18446744073709551616)(w:World) :
 Calls Tryz.prog 40 #[.int .u64 x,.agg #[.int .u64 (mk 0 64),.int .u64 (mk 1 64),.int .u64 (mk 2 64),.int .u64 (mk 3 64),.int .u64 (mk 4 64),.int .u64 (mk 5 64),.int .u64 (mk 6 64)]] w fun e w' =>
  e=.returned (.int .u8 (chk x))∧Below w.heap.size w w' :=
 check_any (fun j=>mk j 64) x hx mask_lt w
theorem cells7{w:World}{g:Nat}{t:TypeId}{a0 a1 a2 a3 a4 a5 a6:Value}(h:Bk w g t #[a0,a1,a2,a3,a4,a5,a6]) :
 w.cell? ⟨g,0,none⟩=some a0∧w.cell? ⟨g,1,none⟩=some a1∧w.cell? ⟨g,2,none⟩=some a2∧w.cell? ⟨g,3,none⟩=some a3∧w.cell? ⟨g,4,none⟩=some a4∧w.cell? ⟨g,5,none⟩=some a5∧w.cell? ⟨g,6,none⟩=some a6 :=
 ⟨h.at_ rfl,h.at_ rfl,h.at_ rfl,h.at_ rfl,h.at_ rfl,h.at_ rfl,h.at_ rfl⟩
attribute [local irreducible] chk wordAt prot mk popc chkBy le
set_option maxRecDepth 20000 in
theorem protect_ok(A:Option Addr)(l:List UInt8)(n cap:Nat)(w:World)(hn:n=l.length)(h8:n%8=0)(hmax:n≤4096)(hcap:n≤cap)(hr:Rd w A (u8v l)) :
 Calls Tryz.prog 21 #[.slice A n cap] w fun e w'=>∃ v,e=.returned (.tuple #[v,.nilIface])∧w'.ownsRow w.heap.size 5 1 v (n / 8) (u8v (prot l (n / 8)))∧Below w.heap.size w w':=by
 obtain⟨i0,hi0,hz0,hz1,hz2⟩:=info_parts u8_info;have HN:=hide hn;have H8:=hide h8;clear hn h8
 go_enter Tryz.func21,Tryz.ntmps21
 go_wp2_with (first|(go_at_call 38;refine(fits_ok A n cap _ H8.out hmax).mono ?_;rintro e w' ⟨rfl,rfl⟩)|(go_at_call 39;refine(places_any _).mono ?_;rintro e w1 ⟨rfl,hb1⟩))
 have hB:Bk (w1.alloc (.cells #[.int .u64 (mk 0 64),.int .u64 (mk 1 64),.int .u64 (mk 2 64),.int .u64 (mk 3 64),.int .u64 (mk 4 64),.int .u64 (mk 5 64),.int .u64 (mk 6 64)] 97)) w1.heap.size 97 #[.int .u64 (mk 0 64),.int .u64 (mk 1 64),.int .u64 (mk 2 64),.int .u64 (mk 3 64),.int .u64 (mk 4 64),.int .u64 (mk 5 64),.int .u64 (mk 6 64)]:=Bk.new _ _ _;have hb2:Below w.heap.size w (w1.alloc (.cells #[.int .u64 (mk 0 64),.int .u64 (mk 1 64),.int .u64 (mk 2 64),.int .u64 (mk 3 64),.int .u64 (mk 4 64),.int .u64 (mk 5 64),.int .u64 (mk 6 64)] 97)):=hb1.alloc hb1.size _;have hge:w.heap.size≤w1.heap.size:=hb1.size;generalize w1.alloc (.cells #[.int .u64 (mk 0 64),.int .u64 (mk 1 64),.int .u64 (mk 2 64),.int .u64 (mk 3 64),.int .u64 (mk 4 64),.int .u64 (mk 5 64),.int .u64 (mk 6 64)] 97)=w2 at hB hb2⊢;generalize w1.heap.size=g at hB hge⊢;clear hb1
 go_loopw [6,7] (fun v i wr=>∃ k:Nat,8*k≤n∧i=.int .i64 (8*(k:Int))∧wr.ownsRow w.heap.size 5 1 v k (u8v (prot l k))∧Bk wr g 97 #[.int .u64 (mk 0 64),.int .u64 (mk 1 64),.int .u64 (mk 2 64),.int .u64 (mk 3 64),.int .u64 (mk 4 64),.int .u64 (mk 5 64),.int .u64 (mk 6 64)]∧Below w.heap.size w wr) (fun _ i _=>n-(intOf i).toNat)
 case atStart=>exact⟨0,by omega,rfl,by simpa[prot,u8v] using World.ownsRow_nil _ _ _ _,hB,hb2⟩
 case round =>
  clear hB hb2;obtain⟨k,hk,rfl,hown,hB,hb⟩:=hrel;by_cases hlt:8*k<n
  ·obtain⟨b,off,rfl,-,-⟩:=hr.form (by rw[aC,←HN.out];omega)
   have hne:¬ cap=8*k:=by omega
   have hrd:=(hr.below hb).drop (8*k) cap (by rw[aC,←HN.out];exact hcap);rw[if_neg hne]at hrd
   have hrd':Rd wr (some ⟨b,off+8*k,none⟩) (u8v (l.drop (8*k))):=by simpa[u8v,Addr.add_lit] using hrd
   clear hrd;have HDL:=hide (show n-8*k=(l.drop (8*k)).length by rw[List.length_drop,←HN.out])
   have h8k:8≤n-8*k:=by have:=H8.out;omega
   have hwl:=wordAt_lt l k;have HS:=hide (u8v_prot_succ l k);obtain⟨c0,c1,c2,c3,c4,c5,c6⟩:=cells7 hB;generalize u8v (prot l k)=xs at hown HS;have hwat:=fun A n cap w hn h8 hr=>word_at A l k n cap w hn h8 hr;have Hwat:=Lib.hid hwat;clear hwat;generalize wordAt l k=x at hwl HS Hwat
   go_wp2
   have hA1:(0:Int)≤8*(k:Int):=by omega
   have hA2:8*(k:Int)≤(n:Int):=by omega
   have hA3:(8*(k:Int)).toNat=8*k:=by omega
   go_region_held3 (fun w'=>w'.cell? ⟨g,0,none⟩=some (.int .u64 (mk 0 64:Nat))∧w'.cell? ⟨g,1,none⟩=some (.int .u64 (mk 1 64:Nat))∧w'.cell? ⟨g,2,none⟩=some (.int .u64 (mk 2 64:Nat))∧w'.cell? ⟨g,3,none⟩=some (.int .u64 (mk 3 64:Nat)) ∧
    w'.cell? ⟨g,4,none⟩=some (.int .u64 (mk 4 64:Nat))∧w'.cell? ⟨g,5,none⟩=some (.int .u64 (mk 5 64:Nat))∧w'.cell? ⟨g,6,none⟩=some (.int .u64 (mk 6 64:Nat)))
    (first|exact cells7 hB|exact cells7 hB3|exact cells7 (hB3.alloc _)|exact cells7 hB4)
    (first
     |(go_at_call 41;refine(Hwat.out _ _ _ _ HDL.out h8k (by exact hrd')).mono ?_;rintro e w' ⟨rfl,rfl⟩)
     |(go_at_call 40;refine(check_at _ hwl _).mono ?_;rintro e w3 ⟨rfl,hb3⟩;have hB3:=Bk.below (Bk.drew hB) hb3 hB.lt;have hw3:=hb.drew.trans (Below.mono hb3 hb.size);have hown3:=own_below (World.ownsRow.drew hown) hb3 (Nat.le_refl _))
     |(have hownA:=hown3.alloc (.cells #[.int .u8 (chk x:Nat)] 5);have hBA:=hB3.alloc (.cells #[.int .u8 (chk x:Nat)] 5);have hwA:=hw3.alloc hw3.size (.cells #[.int .u8 (chk x:Nat)] 5)
       refine step_append_rd _ rfl (.tmp 20) (.tmp 27) 25 rfl w.heap.size 5 i0 _ 1 Tryz.underlying25 hi0 hz0 hz1 hz2 rfl _ k xs rfl hownA _ 1 1 [.int .u8 (chk x:Nat)] rfl rfl (Rd.one _ _ _) ?_ ?_ ?_ ?_ ?_
       ·intro u hu;simp at hu;subst hu;rfl
       ·simp only[maxLen];omega
       ·omega
       ·exact hwA.size
       intro v' w4 hown4 hg4;have hg4':(w3.alloc (.cells #[.int .u8 (chk x:Nat)] 5)).grownBy w4 u6.ownBlock:=hg4;have hB4:=Bk.grown hBA hg4' (own_bk_ne hownA hBA (by decide));have hw4:=jZ hwA hownA hg4' hwA.size (Nat.le_refl _)
       clear hg4))
   go_wp2
   go_roundw
   case rel =>
    exact⟨k+1,by omega,by go_num,by rw[HS.out];exact hown4,hB4,hw4⟩
   case measure=>simp[intOf];omega
  ·go_wp2
   go_ret2
   obtain rfl:k=n / 8:=by have:=H8.out;omega
   exact⟨_,rfl,hown,hb⟩
end ProtectW
namespace OneW
open RowKit Cl PutW CrcW Fram Crc PackW FrameW GetW ApartW OpenW
attribute [local irreducible] pack
def kE:Nat→Code
 |0=>(Tryz.f5.body).getD .skip
 |i+1=>Co.sR (kE i)
def kC(i:Nat):Code:=Co.sL (kE i)
theorem kE0:kE 0=.seq (kC 0) (kE 1):=by kernel_rfl
theorem kE1:kE 1=.seq (kC 1) (kE 2):=by kernel_rfl
theorem kE2:kE 2=.seq (kC 2) (kE 3):=by kernel_rfl
theorem kE3:kE 3=.seq (kC 3) (kE 4):=by kernel_rfl
theorem litu(t:Array Value)(h:t.size=51):∃ u:Nat→Value,(fun i=>t.getD i undef)=u∧t=#[u 0,u 1,u 2,u 3,u 4,u 5,u 6,u 7,u 8,u 9,u 10,u 11,u 12,u 13,u 14,u 15,u 16,u 17,u 18,u 19,u 20,u 21,u 22,u 23,u 24,u 25,u 26,u 27,u 28,u 29,u 30,u 31,u 32,u 33,u 34,u 35,u 36,u 37,u 38,u 39,u 40,u 41,u 42,u 43,u 44,u 45,u 46,u 47,u 48,u 49,u 50]:=⟨_,rfl,(slots_of 51 t h).trans (by kernel_rfl)⟩
theorem uat{t:Array Value}{u:Nat→Value}(hu:(fun i=>t.getD i undef)=u){i:Nat}{v:Value}(h:t[i]? = some v):u i=v:=by rw[←hu];exact getD_of h
def R1(w:World)(t:Array Value)(h:Array Obj):Prop:=t.size=51∧t[2]? = some .nilIface∧HB w.heap h∧∃ D c,t[1]? = some (.slice D 24 c)∧24≤c∧(hW h).ownsRow w.heap.size 5 1 (.slice D 24 c) 24 (u8v (pack 24 1 1 1 [5]))
def R3(w:World)(u:Nat→Value)(t:Array Value)(h:Array Obj):Prop:=Kp 51 [2,3,4] u t∧HB w.heap h∧t[6]? = some .nilIface∧∃ D c,t[5]? = some (.slice D 3 c)
set_option maxRecDepth 20000 in
set_option maxHeartbeats 1000000 in
theorem p1(w:World)(t:Array Value)(ht:t.size=51)  : (kC 1).wp Tryz.prog (fun e a w'=>e=.normal∧R1 w a.tmps w'.heap) ⟨t,[]⟩ w:=by
 obtain⟨u,hu,e⟩:=litu t ht;clear hu ht;subst e;rw[show kC 1=Co.sL (Co.sR ((Tryz.f5.body).getD .skip)) by kernel_rfl];simp only[Tryz.f5,Co.sL,Co.sR,Option.getD];have hb0:Below w.heap.size w (w.alloc (.cells #[.int .u8 5] 5)):=(Below.refl _ _).alloc (Nat.le_refl _) _;have hr0:Rd (w.alloc (.cells #[.int .u8 5] 5)) (some ⟨w.heap.size,0,none⟩) (u8v [5]):=Rd.one _ _ _
 go_wp2_with fail
 refine(pack_ok 24 1 1 1 _ [5] 1 1 _ (by omega) (by omega) (by omega) (by omega) (by omega) (by omega) (by omega) (by omega) rfl (by omega) hr0).mono ?_;rintro e w2 ⟨v,rfl,ho,hb⟩;have ho':=own_base ho hb0.size;obtain⟨D,c,rfl,hc,-⟩:=dL ho';have HO:=hide ho';have HB2:=hide (hb0.trans (hb.mono hb0.size));clear ho hb hb0 hr0 ho'
 go_wp2_with fail
 exact⟨rfl,rfl,.of HB2.out,D,c,rfl,hc,own_hW HO.out⟩
set_option maxRecDepth 20000 in
set_option maxHeartbeats 1000000 in
theorem p3(w:World)(D:Option Addr)(c:Nat)(l:List UInt8)(hl:24=l.length)(hc:24≤c)(hr:Rd w D (u8v l))(t:Array Value)(ht:t.size=51)(q1:t[1]? = some (.slice D 24 c)):(kC 3).wp Tryz.prog (fun e a w'=>e=.normal∧R3 w (fun i=>t.getD i undef) a.tmps w'.heap) ⟨t,[]⟩ w:=by
 obtain⟨u,hu,e⟩:=litu t ht;rw[hu];rw[uat hu q1]at e;clear hu ht q1;subst e;rw[show kC 3=Co.sL (Co.sR (Co.sR (Co.sR ((Tryz.f5.body).getD .skip)))) by kernel_rfl];simp only[Tryz.f5,Co.sL,Co.sR,Option.getD];have HL:=hide hl;clear hl
 go_wp2_with fail
 refine(ProtectW.protect_ok D l 24 c w HL.out rfl (by omega) hc hr).mono ?_;rw[show 24 / 8=3 from rfl];rintro e w2 ⟨v,rfl,ho,hb⟩;obtain⟨D5,c5,rfl,-⟩:=dL ho;have HB2:=hide hb;clear ho hb hr HL
 go_wp2_with fail
 exact⟨⟨rfl,by intro s hs;simp only[List.mem_cons,List.not_mem_nil,or_false]at hs;rcases hs with rfl|rfl|rfl<;>rfl⟩,.of HB2.out,rfl,D5,c5,rfl⟩
set_option maxRecDepth 20000 in
set_option maxHeartbeats 1000000 in
theorem p4(w:World)(g cap c:Nat)(D:Option Addr)(hc:w.cell? ⟨g,0,none⟩=some (.int .i64 1))(t:Array Value)(ht:t.size=51)(q2:t[2]? = some (.nilIface))(q3:t[3]? = some (.slice (some ⟨g,0,none⟩) 1 cap))(q4:t[4]? = some (.nilIface))(q5:t[5]? = some (.slice D 3 c))(q6:t[6]? = some (.nilIface)):(kE 4).wp Tryz.prog (fun e a w'=>e=.ret∧RX 51 0 (.bool true) a.tmps w'.heap) ⟨t,[]⟩ w:=by
 obtain⟨u,hu,e⟩:=litu t ht;rw[uat hu q2,uat hu q3,uat hu q4,uat hu q5,uat hu q6]at e;clear hu ht q2 q3 q4 q5 q6;subst e;rw[show kE 4=(Co.sR (Co.sR (Co.sR (Co.sR ((Tryz.f5.body).getD .skip))))) by kernel_rfl];simp only[Tryz.f5,Co.sL,Co.sR,Option.getD]
 go_wp2_with fail
 exact⟨rfl,rfl⟩
end OneW
namespace OneW
open Conc RowKit Co Cl Ph LwW
attribute [local irreducible] kC kE Fram.pack
def oo(i j:Nat):Oper:=((opsOf (kC i))[j]?).getD ⟨none,.move (.tmp 0),0,"",#[],none⟩
theorem oneF:Tryz.prog.funcs[5]? = some Tryz.f5:=Tryz.func5
theorem oneB:Tryz.f5.body=some (kE 0):=by kernel_rfl
theorem ok1(ro:Nat→Prop):Co.OkCode Tryz.prog (EN ro) (kC 1):=aY ro _ (by decide +kernel)
theorem ok3(ro:Nat→Prop):Co.OkCode Tryz.prog (EN ro) (kC 3):=aY ro _ (by decide +kernel)
theorem ok4(ro:Nat→Prop):Co.OkCode Tryz.prog (EN ro) (kE 4):=aY ro _ (by decide +kernel)
theorem kr0:kC 0=.region 0 (opsOf (kC 0)) false:=by kernel_rfl
theorem ks0:(opsOf (kC 0)).size=1:=by kernel_rfl
theorem ko0_0:(opsOf (kC 0))[0]? = some (oo 0 0):=by kernel_rfl
theorem h0_0:Hands (oo 0 0) 0 (.const (.bool false)):=⟨by kernel_rfl,.inr (by kernel_rfl),by kernel_rfl⟩
theorem kr2:kC 2=.region 2 (opsOf (kC 2)) false:=by kernel_rfl
theorem ks2:(opsOf (kC 2)).size=8:=by kernel_rfl
theorem ko2_0:(opsOf (kC 2))[0]? = some (oo 2 0):=by kernel_rfl
theorem ko2_1:(opsOf (kC 2))[1]? = some (oo 2 1):=by kernel_rfl
theorem ko2_2:(opsOf (kC 2))[2]? = some (oo 2 2):=by kernel_rfl
theorem ko2_3:(opsOf (kC 2))[3]? = some (oo 2 3):=by kernel_rfl
theorem ko2_4:(opsOf (kC 2))[4]? = some (oo 2 4):=by kernel_rfl
theorem ko2_5:(opsOf (kC 2))[5]? = some (oo 2 5):=by kernel_rfl
theorem ko2_6:(opsOf (kC 2))[6]? = some (oo 2 6):=by kernel_rfl
theorem ko2_7:(opsOf (kC 2))[7]? = some (oo 2 7):=by kernel_rfl
theorem h2_0:Hands (oo 2 0) 14 (.tmp 1):=⟨by kernel_rfl,.inl (by kernel_rfl),by kernel_rfl⟩
theorem h2_1:(oo 2 1).op=.buildSlice 43 1 #[(0,.tmp 14)]∧(oo 2 1).guard=none∧(oo 2 1).dst=some 15:=⟨by kernel_rfl,by kernel_rfl,by kernel_rfl⟩
theorem h2_1b:okOpB Tryz.prog (fun i=>okL.contains i) (fun i=>exL.contains i) (oo 2 1).op=true:=by kernel_rfl
theorem h2_1k(ro:Nat→Prop):Co.OkOp Tryz.prog (EN ro) (oo 2 1).op:=fK (E:=EN ro) rfl (iH ro) h2_1b
theorem h2_1r(A:Option Addr)(n c:Nat)(w:World):(execOp (fun _=>.slice A n c) (oo 2 1)).run Tryz.prog w=.ok (.value (.slice (some ⟨w.heap.size,0,none⟩) 1 1)) {w with heap:=w.heap.push (.cells #[.slice A n c] 25 (0,0))}:=by kernel_rfl
theorem h2_2:jB (oo 2 2) 14 16 (.tmp 15) (.const (.int .i64 2)):=⟨by kernel_rfl,by kernel_rfl,fun t' w=>by kernel_rfl,fun t' w=>by kernel_rfl⟩
theorem h2_3:Hands (oo 2 3) 13 (.tmp 16):=⟨by kernel_rfl,.inl (by kernel_rfl),by kernel_rfl⟩
theorem h2_4:Parts (oo 2 4) 17 13 0:=⟨by kernel_rfl,by kernel_rfl,by kernel_rfl⟩
theorem h2_5:Parts (oo 2 5) 18 13 1:=⟨by kernel_rfl,by kernel_rfl,by kernel_rfl⟩
theorem h2_6:Hands (oo 2 6) 3 (.tmp 17):=⟨by kernel_rfl,.inr (by kernel_rfl),by kernel_rfl⟩
theorem h2_7:Hands (oo 2 7) 4 (.tmp 18):=⟨by kernel_rfl,.inr (by kernel_rfl),by kernel_rfl⟩
theorem lat{t t':Array Value}{S:List Nat}{d1 d2:Nat}{a b v:Value}(h:Cl.Left t t' S d1 d2 a b){s:Nat}(hs:s∉S)(hv:t[s]? = some v):t'[s]? = some v:=by rw[h.keep s hs];exact hv
theorem kat{N:Nat}{S:List Nat}{t t':Array Value}(h:Kp N S (fun i=>t.getD i undef) t'){s:Nat}{v:Value}(hs:s∈S)(hv:t[s]? = some v):t'[s]? = some v:=by rw[h.2 s hs];exact congrArg some (getD_of hv)
def pk1:List UInt8:=Fram.pack 24 1 1 1 [5]
theorem opn_pk1:opn pk1=(1,1,1,2):=by
 obtain⟨h1,-,-,h2,h3,h4,-,-⟩:=OpenW.good_pack 24 1 1 1 [5] (by unfold PackW.Fits;simp) (by simp);have hl:pk1.length=24:=Fram.pack_length 24 1 1 1 [5] (by simp);have e:pk1=Fram.pack 24 (1:Int).toNat (1:Int).toNat (1:Int).toNat [5]:=rfl;unfold opn;rw[hl,if_pos (by rw[e];exact h1),e,h2,h3,h4]
theorem pk1_found{l:List Fnd}(h:NewI (fun _=>pk1) 1 l):l=[⟨1,0,1,1⟩]:=by
 have hc:dJ (fun _=>pk1) 0:=by unfold dJ;rw[opn_pk1];exact⟨rfl,.inl rfl⟩
 rw[one_page hc h];unfold fndOf;rw[opn_pk1];rfl
section
variable {Q:Value→World→Prop}{W:World}{K Z:Nat→Prop}{t:Array Value}{w:World}{c:Frame}{cs:List Frame}
theorem one_R{E:Env}(hE:∃ ro,E=EN ro)(hl:LawOk E K W)(HKZ:∀ x,K x→¬ Z x)(HT:t.size=51)
 (hk:∀ Z' f w,(∀x,K x→¬ Z' x)→Side E K W Z' f w→Wins Tryz.prog Q Z' (G (c.finish (.bool true)) cs) w):WinsR Tryz.prog Q E K W Z (c::cs) 5 t [.code (kE 0)] .run w:=by
 obtain⟨ro,rfl⟩:=hE;have hS:Sound Tryz.prog (EN ro):=bV ro;rw[kE0];refine ai ?_;rw[kr0];refine cu ?_;rw[ks0,show List.range 1=[0] from rfl];refine aI hS (v:=.bool false) (d:=0) (x:=.const (.bool false)) ko0_0 h0_0.1 h0_0.2.1 h0_0.2.2 (fun ok f=>.bool _) rfl (bf ?_)
 have HT1:(t.setIfInBounds 0 (.bool false)).size=51:=by simpa using HT
 generalize t.setIfInBounds 0 (.bool false)=t1 at HT1⊢;rw[kE1];refine ai ?_;refine lwp hS (R:=R1 w) ⟨_,oneF⟩ (ok1 _) (fun τ d=>p1 (Co.re w τ d) t1 HT1) fun t2 u2 h2=>?_;obtain⟨HT2,a2,hb2,D,n,a1,hn,ho⟩:=h2;rw[kE2];refine ai ?_;rw[kr2];refine winsR_newestZ hS hl HKZ (z:=2) (nw:=2) rfl (by omega) (by omega) (id:=2) (ops:=opsOf (kC 2)) (p:=1) (s1:=14) (s2:=15) (s3:=16) (s4:=13) (e1:=17) (e2:=18) (d1:=3) (d2:=4) ks2 ko2_0 ko2_1 ko2_2 ko2_3 ko2_4 ko2_5 ko2_6 ko2_7 h2_0 h2_1 (h2_1k _) h2_1r h2_2 h2_3 h2_4 h2_5 h2_6 h2_7 (by decide) (by rw[HT2];decide) (by rw[HT2];decide) a1 (pg_own (own_of_hW ho) (by omega)) fun Z1 l1 D1 cap1 u3 t3 hN1 HKZ1 hb3 ho3 hl3=>?_;obtain rfl:=pk1_found hN1;replace hb3:HB u2.heap u3.heap:=.of hb3;have HT3:=hl3.size.trans HT2
 obtain⟨g,rfl,hc⟩:∃ g,D1=some ⟨g,0,none⟩∧u3.cell? ⟨g,0,none⟩=some (.int .i64 1):=by
  obtain⟨b,off,e1,e2,-⟩:=rdF_own ho3 0 (by decide);rcases ho3.2 with⟨-,h0⟩|⟨g,_,_,hv,-⟩
  ·simp at h0
  ·injection hv with hv;subst hv;cases e1;exact⟨_,rfl,e2⟩
 rw[kE3];refine ai ?_;refine lwp hS (R:=R3 u3 fun i=>t3.getD i undef) ⟨_,oneF⟩ (ok3 _) (fun τ d=>p3 (Co.re u3 τ d) D n _ (by rw[Fram.pack_length 24 1 1 1 [5] (by simp)]) hn (Rd.of_own (hb3.own (own_of_hW ho))) t3 HT3 (lat hl3 (by decide) a1)) fun t4 u4 h4=>?_;obtain⟨k4,hb4,a6,D5,c5,a5⟩:=h4;refine lret hS (R:=RX 51 0 (.bool true)) ⟨_,oneF⟩ (ok4 _) (fun τ d=>p4 (Co.re u4 τ d) g cap1 c5 D5 (hb4.cell hc) t4 k4.1 (kat k4 (by decide) (lat hl3 (by decide) a2)) (kat k4 (by decide) hl3.one) (kat k4 (by decide) hl3.two) a5 a6) fun t5 u5 todo h5=>?_;refine winsR_leave oneF (v:=.bool true) (fun τ d=>(results_tmp rfl _ _ _).trans (by rw[Array.getD_eq_getD_getElem?,h5.2];rfl)) fun f v' w' hv hw hs=>?_;cases hv;exact hk Z1 f w' HKZ1 hs
end
section
variable {Q:Value→World→Prop}{E:Env}{K Z:Nat→Prop}{W:World}{cs:List Frame}{fn:FuncId}{t:Array Value}{k:List Item}{w0:World}
def e0:World:={(default:World) with heap:=Array.replicate Tryz.prog.globals.size (.cells #[] 0 (0,0))}
theorem e0_rel(ro:Nat→Prop)(w:World)(hro:∀ x,¬ro x):WR (EN ro) (fun _=>none) (Co.re e0 w.tape w.drawn) w:=by
 refine⟨rfl,rfl,fun r r' h=>(by cases h),fun r s x h=>(by cases h),fun r r' o h=>(by cases h),fun x h1 h2=>absurd h2 (hro x),fun r r' h=>(by cases h),fun r hr=>⟨0,?_⟩,?_⟩
 ·show e0.heap[r]? = _;unfold e0;rw[Array.getElem?_replicate,if_pos (show r<Tryz.prog.globals.size from hr)]
 ·show _≤e0.heap.size;simp[e0,EN]
theorem winsR_one{ops:Array Oper}{i:Nat}{rest:List Nat}{o:Oper}(hl:LawOk E K W)(hKZ:∀ x,K x→¬ Z x)
 (ho:ops[i]? = some o) (hw:∀ t',Region.wanted o (yielded ops t')=true)
 (hr:∀ t' w,(execOp (Act.eval ⟨t',[]⟩) o).run Tryz.prog w=.ok (.enter 5 #[]) w) (hev:∀ t' w,(execOp (Act.eval ⟨t',[]⟩) o).events Tryz.prog w #[]=#[])
 (hk:∀ Z',(∀x,K x→¬ Z' x)→WinsR Tryz.prog Q E K W Z' cs fn (Act.put ⟨t,[]⟩ o.dst (.bool true)).tmps (.inRegion ops rest::k) .run w0):WinsR Tryz.prog Q E K W Z cs fn t (.inRegion ops (i::rest)::k) .run w0:=by
 intro f t' w ha hwr hs;have hlow:∀ x,x≤Tryz.prog.globals.size→x<w.heap.size∧¬ Z x:=fun x hx=>⟨hs.low x (hl.low x hx),hKZ x (hl.low x hx)⟩;refine dB rfl fun τ d=>⟨G (Frame.enter Tryz.prog 5 #[] .normal) (Co.fr fn t' (.inRegion ops (i::rest)::k) .run::cs),w,d,#[],?_,Nat.le_refl _,fun e he=>by simp at he,?_⟩
 ·have hst:=stepG_enter (P:=Tryz.prog) (main:=true) (b:=base fn) (a:=⟨t',[]⟩) (k:=k) (cs:=cs) (rest:=rest) ho (hw t') (by simp[base]) (hr t' (Co.re w τ d))
  have hls:listed Tryz.prog (base fn).fn ⟨t',[]⟩ o (Co.re w τ d)=#[]:=by
   unfold listed;rw[hev];rfl
  rw[hls]at hst;exact hst
 ·rw[Go.Conc.enter_at #[] oneF oneB]
  have hfin:∀ v,(Co.fr fn t' (.inRegion ops (i::rest)::k) .run).finish v=Co.fr fn (Act.put ⟨t',[]⟩ o.dst v).tmps (.inRegion ops rest::k) .run:=fun v=>by
   have:=dW (y:=⟨fn,t',.inRegion ops (i::rest)::k,false⟩) (v:=v) rfl;rw[ho]at this;exact this
  have hlo:LawOk (EN fun _=>False) (fun x=>x<w.heap.size∧¬ Z x) w:=⟨rfl,hlow,fun E o h=>hl.ty E o (by rw[←hs.old _ (hl.low _ (Nat.le_refl _))];exact h)⟩;refine one_R (E:=EN fun _=>False) (K:=fun x=>x<w.heap.size∧¬ Z x) (W:=w) (Z:=Z) (w:=e0) (t:=#[]++Array.replicate (Tryz.f5.ntmps-(#[]:Array Value).size) undef) ⟨_,rfl⟩ hlo (fun x h=>h.2) (by simp[Tryz.ntmps5]) (fun Z' f' w' hz' hs'=>?_) (fun _=>none) _ w ?_ (e0_rel _ w fun _ h=>h) ⟨fun _ _=>rfl,fun x h=>h.1,fun x h=>?_,hs.zed,fun x h=>h.elim,Nat.le_refl _,rfl,rfl⟩
  ·rw[hfin]
   have hrel:WR E f (Co.re w0 w'.tape w'.drawn) w':=hwr.rely ⟨hs'.size,fun y hy hy2=>hs'.old y ⟨hy2,by
    rcases hy with h|h
    ·exact(hs.own y h).2
    ·exact(hs.ro y h).2⟩⟩
   have rg:∀ {r y},f r=some y→y<w.heap.size:=fun h=>(hwr.lt h).2;have hW:=hk Z' fun x hx=>hz' x ⟨hs.low x hx,hKZ x hx⟩;refine hW f _ w' (fG ha ?_ _) hrel ?_
   ·exact .bool true
   ·refine⟨fun y hy=>?_,fun y hy=>Nat.lt_of_lt_of_le (hs.low y hy) hs'.size,fun y hy=>?_,hs'.zed,fun y hy=>?_,Nat.le_trans hs.size hs'.size,hs'.still.1.trans hs.still.1,hs'.still.2.trans hs.still.2⟩
    ·rw[hs'.old y ⟨hs.low y hy,hKZ y hy⟩];exact hs.old y hy
    ·refine⟨(hs.own y hy).1,hz' y ⟨?_,(hs.own y hy).2⟩⟩;obtain⟨⟨r,er⟩,-⟩:=hy;exact rg er
    ·exact⟨Nat.lt_of_lt_of_le (hs.ro y hy).1 hs'.size,hz' y (hs.ro y hy)⟩
  ·exact AR.append AR.empty (AR.flat fun u hu=>by obtain⟨-,rfl⟩:=Array.mem_replicate.1 hu;exact dm)
  ·obtain⟨⟨r,e⟩,-⟩:=h;cases e
end
end OneW
