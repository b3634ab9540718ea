/- Texts of this seat,put together: Base,CoV,CoTape,CoS,CoH. -/
import Derived.WalkKit
import Derived.WalkSpells
import Derived.Below
import Derived.Maps.AppendAt
import Derived.Laws.CopyOwn
import Derived.Laws.AppendOwnNone
import Derived.Deep.RegionLaw
import Derived.Deep.Draws
import Derived.Conc.Events
import Derived.Conc.Listed
import Derived.RunT
namespace Go.Proofs.YtlaipigilikmbaaGreatDoor
noncomputable section
set_option linter.unusedVariables false
set_option linter.unusedSimpArgs false
section
open RowKit
theorem hide{p:Prop}(h:p):Hid p:=h
def u8v(l:List UInt8):List Value:=l.map fun x=>.int .u8 (x.toNat:Int)
theorem aC(l:List UInt8):(u8v l).length=l.length:=by simp[u8v]
theorem lC(l m:List UInt8):u8v (l++m)=u8v l++u8v m:=by simp[u8v]
theorem kH(l:List UInt8)(i:Nat)(h:i<l.length):(u8v l)[i]? = some (.int .u8 (l[i].toNat:Int)):=by simp[u8v,h]
theorem u8v_one(l:List UInt8):∀ u∈u8v l,u.oneCell'=true:=by
 intro u hu;obtain⟨x,_,rfl⟩:=List.mem_map.1 hu;rfl
def Rd(w:World)(A:Option Addr)(xs:List Value):Prop :=
 xs=[]∨∃b off,A=some ⟨b,off,none⟩∧∀ i u,xs[i]? = some u→w.cell? ⟨b,off+i,none⟩=some u
section
variable {w w':World}{A:Option Addr}{xs:List Value}
theorem Rd.nil(w:World)(A:Option Addr):Rd w A []:=.inl rfl
theorem Rd.lt{b off:Nat}(h:∀ i u,xs[i]? = some u→w.cell? ⟨b,off+i,none⟩=some u)(hx:xs≠[]):b<w.heap.size:=by
 obtain⟨x,l,rfl⟩:=List.exists_cons_of_ne_nil hx;exact World.block_lt_of_cell? w _ (h 0 x rfl)
theorem Rd.keep(h:Rd w A xs)(hk:∀ k,k<w.heap.size→w'.heap[k]? = w.heap[k]?):Rd w' A xs:=by
 rcases h with rfl|⟨b,off,rfl,hc⟩
 ·exact .inl rfl
 ·refine .inr ⟨b,off,rfl,fun i u hu=>?_⟩;have:=hc i u hu;rw[World.cell?_of_block (w:=w) (hk b (World.block_lt_of_cell? w _ this)),this]
theorem Rd.below(h:Rd w A xs)(hb:Below w.heap.size w w'):Rd w' A xs:=h.keep hb.block
theorem Rd.drew(h:Rd w A xs):Rd w.drew A xs:=h
theorem Rd.drewN(h:Rd w A xs)(n:Nat):Rd (w.drewN n) A xs:=h
theorem Rd.alloc(h:Rd w A xs)(o:Obj):Rd (w.alloc o) A xs:=h.keep fun k hk=>Below.heap_alloc w o k hk
theorem Rd.at_(h:Rd w A xs){i:Nat}(hi:i<xs.length):∃ b off,A=some ⟨b,off,none⟩∧w.cell? ⟨b,off+i,none⟩=some xs[i]:=by
 rcases h with rfl|⟨b,off,rfl,hc⟩
 ·simp at hi
 ·exact⟨b,off,rfl,hc i _ (List.getElem?_eq_getElem hi)⟩
theorem Rd.form(h:Rd w A xs)(hx:0<xs.length):∃ b off,A=some ⟨b,off,none⟩∧b<w.heap.size∧∀ i,(hi:i<xs.length)→w.cell? ⟨b,off+i,none⟩=some xs[i]:=by
 rcases h with rfl|⟨b,off,rfl,hc⟩
 ·simp at hx
 ·exact⟨b,off,rfl,Rd.lt hc (by intro e;subst e;simp at hx),fun i hi=>hc i _ (List.getElem?_eq_getElem hi)⟩
theorem Rd.cells(h:Rd w A xs):∀ ad,A=some ad→∀ j u,xs[j]? = some u→w.cell? (ad.add j)=some u:=by
 intro ad had j u hu;rcases h with rfl|⟨b,off,rfl,hc⟩
 ·simp at hu
 ·injection had with had;subst had;have:=hc j u hu;rwa[Addr.add_lit]
theorem Rd.none_(h:Rd w none xs):xs=[]:=by
 rcases h with h|⟨b,off,h,_⟩
 ·exact h
 ·cases h
theorem Rd.take(h:Rd w A xs)(k:Nat):Rd w A (xs.take k):=by
 rcases h with rfl|⟨b,off,rfl,hc⟩
 ·simp[Rd.nil]
 ·refine .inr ⟨b,off,rfl,fun i u hu=>hc i u ?_⟩;rw[List.getElem?_take]at hu;split at hu
  ·exact hu
  ·cases hu
theorem Rd.drop(h:Rd w A xs)(k cap:Nat)(hc:xs.length≤cap):Rd w (if cap=k then A else A.map (·.add k)) (xs.drop k):=by
 rcases h with rfl|⟨b,off,rfl,hcell⟩
 ·simp[Rd.nil]
 ·by_cases hk:cap=k
  ·rw[List.drop_of_length_le (by omega)];exact .inl rfl
  ·rw[if_neg hk];refine .inr ⟨b,off+k,by simp[Addr.add_lit],fun i u hu=>?_⟩;rw[Nat.add_assoc];exact hcell (k+i) u (by simpa using hu)
theorem Rd.of_own{base:Nat}{e:TypeId}{n c:Nat}(h:w.ownsRow base e 1 (.slice A n c) n xs):Rd w A xs:=by
 rcases h.2 with⟨hv,hn⟩|⟨g,cap,cur,hv,hb,hg,hnc,hm,hs,ht⟩
 ·subst hn;left;exact List.eq_nil_of_length_eq_zero (by simpa using h.1)
 ·injection hv with hA;subst hA;refine .inr ⟨g,0,rfl,fun i u hu=>?_⟩;have:=h.cells (g:=g) rfl i u hu;rwa[Addr.add_lit]at this
end
theorem dL{w:World}{base:Nat}{e:TypeId}{v:Value}{n:Nat}{xs:List Value}(h:w.ownsRow base e 1 v n xs) :
 ∃A c,v=.slice A n c∧n≤c∧xs.length=n∧Rd w A xs∧(A=none→n=0∧c=0)∧(∀k,v.ownBlock=some k→base≤k∧k<w.heap.size):=by
 have h1:=h.1;rcases h.2 with⟨rfl,rfl⟩|⟨g,cap,cur,rfl,hb,hg,hnc,hm,hs,ht⟩
 ·exact⟨none,0,rfl,Nat.le_refl _,by simpa using h1,Rd.of_own h,fun _=>⟨rfl,rfl⟩,h.lt⟩
 ·exact⟨_,cap,rfl,hnc,by simpa using h1,Rd.of_own h,(fun h'=>by cases h'),h.lt⟩
theorem oq{w:World}{base:Nat}{e:TypeId}{v:Value}{n:Nat}{xs:List Value}(h:w.ownsRow base e 1 v n xs)(hn:0<n) :
 ∃g cap cur,v=.slice (some ⟨g,0,none⟩) n cap∧base≤g∧g<w.heap.size∧w.heap[g]? = some (.cells cur e (0,0))∧n≤cap∧cap≤maxLen∧cur.size=cap∧cur.toList.take n=xs:=by
 rcases h.2 with⟨rfl,rfl⟩|⟨g,cap,cur,rfl,hb,hg,hnc,hm,hs,ht⟩
 ·omega
 ·exact⟨g,cap,cur,rfl,hb,(Array.getElem?_eq_some_iff.1 hg).1,hg,hnc,hm,by simpa using hs,by simpa using ht⟩
theorem own_at{w:World}{base:Nat}{e:TypeId}{A:Option Addr}{n c:Nat}{xs:List Value}(h:w.ownsRow base e 1 (.slice A n c) n xs)(hn:0<n) :
 ∃g,A=some ⟨g,0,none⟩∧base≤g∧g<w.heap.size:=by
 obtain⟨g,cap,cur,hv,h1,h2,_⟩:=oq h hn;injection hv with hA;exact⟨g,hA,h1,h2⟩
theorem own_below{w w':World}{base B:Nat}{e:TypeId}{size:Nat}{v:Value}{n:Nat}{xs:List Value}(h:w.ownsRow base e size v n xs)(hb:Below B w w')(hB:w.heap.size≤B):w'.ownsRow base e size v n xs :=
 h.kept (row:=none) ⟨hb.os,hb.tape,hb.output,hb.size,fun k hk _=>hb.block k (by omega)⟩ (by cases hv:v.ownBlock<;>simp)
theorem own_base{w:World}{base base':Nat}{e:TypeId}{size:Nat}{v:Value}{n:Nat}{xs:List Value}(h:w.ownsRow base e size v n xs)(hb:base'≤base):w.ownsRow base' e size v n xs :=
 ⟨h.1,h.2.imp id fun⟨g,cap,cur,h1,h2,r⟩=>⟨g,cap,cur,h1,Nat.le_trans hb h2,r⟩⟩
theorem below_drewN{B:Nat}{a w:World}(h:Below B a w)(n:Nat):Below B a (w.drewN n):=⟨h.os,h.tape,h.output,h.size,h.block⟩
theorem below_of_grown{B:Nat}{w w':World}{row:Option Nat}(hg:w.grownBy w' row)(hB:B≤w.heap.size)(hr:∀ k,row=some k→B≤k):Below B w w' :=
 (Below.refl _ _).grown hg hB hr
def Bk(w:World)(g:Nat)(t:TypeId)(cs:Array Value):Prop:=w.heap[g]? = some (.cells cs t (0,0))
section
variable {w w':World}{g:Nat}{t:TypeId}{cs:Array Value}
theorem Bk.lt(h:Bk w g t cs):g<w.heap.size:=(Array.getElem?_eq_some_iff.1 h).1
theorem Bk.cell(h:Bk w g t cs)(i:Nat):w.cell? ⟨g,i,none⟩=cs[i]?:=cell_of_row w g i cs t (0,0) h
theorem Bk.at_(h:Bk w g t cs){i:Nat}{u:Value}(hu:cs[i]? = some u):w.cell? ⟨g,i,none⟩=some u:=(h.cell i).trans hu
theorem Bk.free(h:Bk w g t cs)(i:Nat):w.frozen? ⟨g,i,none⟩=false:=by
 unfold Bk at h;simp[World.frozen?,h]
theorem Bk.new(w:World)(t:TypeId)(cs:Array Value):Bk (w.alloc (.cells cs t)) w.heap.size t cs:=heap_alloc_new w _
theorem Bk.drew(h:Bk w g t cs):Bk w.drew g t cs:=h
theorem Bk.drewN(h:Bk w g t cs)(n:Nat):Bk (w.drewN n) g t cs:=h
theorem Bk.alloc(h:Bk w g t cs)(o:Obj):Bk (w.alloc o) g t cs:=(Below.heap_alloc w o g h.lt).trans h
theorem Bk.put(h:Bk w g t cs)(i:Nat)(u:Value):Bk (w.setCell ⟨g,i,none⟩ u) g t (cs.setIfInBounds i u):=by
 unfold Bk at h⊢;simp[World.setCell,Array.getElem?_modify,h]
theorem Bk.far(h:Bk w g t cs){p:Addr}(hp:g≠p.block)(u:Value):Bk (w.setCell p u) g t cs:=(Below.heap_setCell w p u g hp).trans h
theorem Bk.below{B:Nat}(h:Bk w g t cs)(hb:Below B w w')(hg:g<B):Bk w' g t cs:=(hb.block g hg).trans h
theorem Bk.grown{row:Option Nat}(h:Bk w g t cs)(hb:w.grownBy w' row)(hg:some g≠row):Bk w' g t cs:=(hb.block g h.lt hg).trans h
end
theorem own_of_bk{w:World}{base g:Nat}{e:TypeId}{n cap:Nat}{cs:Array Value}(h:Bk w g e cs)(hb:base≤g)(hn:n≤cap)(hm:cap≤maxLen)(hs:cs.size=cap) :
 w.ownsRow base e 1 (.slice (some ⟨g,0,none⟩) n cap) n (cs.toList.take n) :=
 ⟨by simp;omega,.inr ⟨g,cap,cs,rfl,hb,h,hn,hm,by omega,by simp⟩⟩
section
variable {P:Program}
theorem iY(w:World)(base:Nat)(t ty e:TypeId)(i:TypeInfo)(z:Value)(bytes:Nat)(ht:P.underlying t=some (.slice e))(hi:P.info? e=some i)(hz:i.zero=some z)
 (hsize:i.size=1) (hby:i.bytes=bytes) (hzs:z.cells.size=1) (v:Value) (n:Nat) (xs:List Value) (hown:w.ownsRow base e 1 v n xs)
 (A:Option Addr) (m c:Nat) (news:List Value) (hm:news.length=m) (hr:Rd w A news) (h1:∀ u∈news,u.oneCell'=true)
 (h63:n+m≤maxLen) (hbytes:(n+m)*bytes≤140737488355328) (hbase:base≤w.heap.size) :
 ∃v' w',(Builtin.append_ #[t,t] ty #[v,.slice A m c]).run P w=.ok v' w'∧w'.ownsRow base e 1 v' (n+m) (xs++news)∧w.grownBy w' v.ownBlock ∧
  (v'.ownBlock=v.ownBlock∨v'.ownBlock=some w.heap.size):=by
 cases A with
 |none =>
  obtain rfl:=hr.none_;simp only[List.length_nil]at hm;subst hm;refine⟨v,w,?_,by simpa using hown,World.grownBy.refl w _,.inl rfl⟩;rcases hown.2 with⟨rfl,rfl⟩|⟨g,cap,cur,rfl,_,_,hnc,_⟩
  ·simp[Builtin.append_,run_underlying ht,sizeOf,typeInfo,hi,Builtin.lenOf,Builtin.firstCells]
  ·simp[Builtin.append_,run_underlying ht,sizeOf,typeInfo,hi,Builtin.lenOf,Builtin.firstCells,hnc,storeCells]
 |some ad =>
  obtain⟨v',w',hrun,h2,h3,_,h5⟩:=run_append_own_at (P:=P) w base t ty e i z 1 bytes ht hi hz hsize hby hzs (by omega) v n xs hown ad m c news (by simp[hm]) (hr.cells ad rfl) h1 h63 hbytes hbase;exact⟨v',w',hrun,h2,h3,h5⟩
theorem dH(w:World){ops:Array Oper}{rest:List Oper}{o:Oper}{a:Act}{Q:Exit→Act→World→Prop}(hgd:o.guard=none)(s x:Operand)(t:TypeId)
 (ho:o.op=.call {callee:=.builtin .append,args:=#[s,x],argTypes:=#[t,t]})
 (base:Nat) (e:TypeId) (i:TypeInfo) (z:Value) (bytes:Nat) (ht:P.underlying t=some (.slice e)) (hi:P.info? e=some i) (hz:i.zero=some z)
 (hsize:i.size=1) (hby:i.bytes=bytes) (hzs:z.cells.size=1) (v:Value) (n:Nat) (xs:List Value) (hs:a.eval s=v) (hown:w.ownsRow base e 1 v n xs)
 (A:Option Addr) (m c:Nat) (news:List Value) (hx:a.eval x=.slice A m c) (hm:news.length=m) (hr:Rd w A news) (h1:∀ u∈news,u.oneCell'=true)
 (h63:n+m≤maxLen) (hbytes:(n+m)*bytes≤140737488355328) (hbase:base≤w.heap.size)
 (h:∀ v' w',w'.ownsRow base e 1 v' (n+m) (xs++news)→w.grownBy w' v.ownBlock→wpList P ops Q rest (a.put o.dst v') w'):wpList P ops Q (o::rest) a w:=by
 refine wpList_plain hgd fun K hK=>?_;obtain⟨v',w',hrun,h2,h3,_⟩:=iY (P:=P) w base t o.type e i z bytes ht hi hz hsize hby hzs v n xs hown A m c news hm hr h1 h63 hbytes hbase;unfold Oper.wp execOp;simp only[ho,resolve,invoke,builtin,Sem.run_bind,Sem.run_pure,Result.andThen_ok,List.map_toArray,List.map_cons,List.map_nil,hs,hx,hrun];exact hK _ _ (h v' w' h2 h3)
theorem step_append_rd(w:World){ops:Array Oper}{o:Oper}{a:Act}{K:Act→World→Prop}{Q:Exit→Act→World→Prop}{E:Prop}(hgd:o.guard=none)(s x:Operand)(t:TypeId)
 (ho:o.op=.call {callee:=.builtin .append,args:=#[s,x],argTypes:=#[t,t]})
 (base:Nat) (e:TypeId) (i:TypeInfo) (z:Value) (bytes:Nat) (ht:P.underlying t=some (.slice e)) (hi:P.info? e=some i) (hz:i.zero=some z)
 (hsize:i.size=1) (hby:i.bytes=bytes) (hzs:z.cells.size=1) (v:Value) (n:Nat) (xs:List Value) (hs:a.eval s=v) (hown:w.ownsRow base e 1 v n xs)
 (A:Option Addr) (m c:Nat) (news:List Value) (hx:a.eval x=.slice A m c) (hm:news.length=m) (hr:Rd w A news) (h1:∀ u∈news,u.oneCell'=true)
 (h63:n+m≤maxLen) (hbytes:(n+m)*bytes≤140737488355328) (hbase:base≤w.heap.size)
 (h:∀ v' w',w'.ownsRow base e 1 v' (n+m) (xs++news)→w.grownBy w' v.ownBlock→K (a.put o.dst v') w') :
 if Region.wanted o (yielded ops a.tmps)=true then Oper.wp P o a w K Q else E:=by
 have hw:Region.wanted o (yielded ops a.tmps)=true:=by simp[Region.wanted,hgd]
 rw[if_pos hw];obtain⟨v',w',hrun,h2,h3,_⟩:=iY (P:=P) w base t o.type e i z bytes ht hi hz hsize hby hzs v n xs hown A m c news hm hr h1 h63 hbytes hbase;unfold Oper.wp execOp;simp only[ho,resolve,invoke,builtin,Sem.run_bind,Sem.run_pure,Result.andThen_ok,List.map_toArray,List.map_cons,List.map_nil,hs,hx,hrun];exact h v' w' h2 h3
end
theorem own_bk_ne{w:World}{base g:Nat}{e t:TypeId}{size n:Nat}{v:Value}{xs:List Value}{cs:Array Value}(h:w.ownsRow base e size v n xs)(hg:Bk w g t cs)(hne:e≠t):some g≠v.ownBlock:=by
 rcases h.2 with⟨rfl,_⟩|⟨g',cap,cur,rfl,_,hh,_⟩
 ·simp[Value.ownBlock]
 ·intro he
  have:g=g':=by simpa[Value.ownBlock] using he
  subst this;unfold Bk at hg;rw[hh]at hg;injection hg with hg;injection hg with _ ht;exact hne ht
theorem jZ{B base:Nat}{w0 w w':World}{e:TypeId}{size n:Nat}{v:Value}{xs:List Value}(hb:Below B w0 w)(h:w.ownsRow base e size v n xs)(hg:w.grownBy w' v.ownBlock)(hB:B≤w.heap.size)(hbase:B≤base):Below B w0 w' :=
 hb.grown hg hB fun k hk=>Nat.le_trans hbase (h.lt k hk).1
theorem Rd.new(w:World)(n:Nat)(e:TypeId)(cs:Array Value)(r:Nat×Nat)(xs:List Value)(hn:n=w.heap.size)(hx:xs=cs.toList):Rd (w.alloc (.cells cs e r)) (some ⟨n,0,none⟩) xs:=by
 subst hn hx;refine .inr ⟨w.heap.size,0,rfl,fun i u hu=>?_⟩;rw[Nat.zero_add,cell_of_row _ w.heap.size i cs e r (heap_alloc_new w _)];simpa using hu
theorem Rd.one(w:World)(e:TypeId)(u:Value):Rd (w.alloc (.cells #[u] e)) (some ⟨w.heap.size,0,none⟩) [u] :=
 .inr ⟨w.heap.size,0,rfl,fun i v hv=>by
  have hi:i=0:=by
   have:=(List.getElem?_eq_some_iff.1 hv).1;simp at this;exact this
  subst hi;simp at hv;subst hv
  exact(Bk.new w e #[u]).cell 0⟩
end
namespace Co
abbrev Fm:=Nat→Option Nat
def Fm.le(f g:Fm):Prop:=∀ b x,f b=some x→g b=some x
theorem Fm.le_refl(f:Fm):f.le f:=fun _ _ h=>h
theorem Fm.le_trans{f g h:Fm}(a:f.le g)(b:g.le h):f.le h:=fun _ _ e=>b _ _ (a _ _ e)
inductive VR (ok:FuncId→Bool) (f:Fm):Value→Value→Prop
 |bool (b:Bool):VR ok f (.bool b) (.bool b)
 |int (k:IntKind) (n:Int):VR ok f (.int k n) (.int k n)
 |string (s:ByteArray):VR ok f (.string s) (.string s)
 |ptrN:VR ok f (.pointer none) (.pointer none)
 |ptr {b b' o:Nat} {s:Option Nat} (h:f b=some b'):VR ok f (.pointer (some ⟨b,o,s⟩)) (.pointer (some ⟨b',o,s⟩))
 |sliceN (n c:Nat):VR ok f (.slice none n c) (.slice none n c)
 |slice {b b' o:Nat} {s:Option Nat} {n c:Nat} (h:f b=some b'):VR ok f (.slice (some ⟨b,o,s⟩) n c) (.slice (some ⟨b',o,s⟩) n c)
 |slice0 (a a':Addr):VR ok f (.slice (some a) 0 0) (.slice (some a') 0 0)
 |mapN:VR ok f (.map none) (.map none)
 |map {b b':Nat} (h:f b=some b'):VR ok f (.map (some b)) (.map (some b'))
 |chanN:VR ok f (.chan none) (.chan none)
 |chan {b b':Nat} (h:f b=some b'):VR ok f (.chan (some b)) (.chan (some b'))
 |func {i:FuncId} {x x' y y':Array Value} (h:ok i=true) (hx:x.size=x'.size) (hy:y.size=y'.size) (ex:∀ (i:Nat) u u',x[i]? = some u→x'[i]? = some u'→VR ok f u u') (ey:∀ (i:Nat) u u',y[i]? = some u→y'[i]? = some u'→VR ok f u u'):VR ok f (.func (.func i) x y) (.func (.func i) x' y')
 |nilFunc:VR ok f .nilFunc .nilFunc
 |iface {t:TypeId} {v v':Value} (h:VR ok f v v'):VR ok f (.iface t v) (.iface t v')
 |nilIface:VR ok f .nilIface .nilIface
 |agg {x x':Array Value} (hx:x.size=x'.size) (ex:∀ (i:Nat) u u',x[i]? = some u→x'[i]? = some u'→VR ok f u u'):VR ok f (.agg x) (.agg x')
 |tuple {x x':Array Value} (hx:x.size=x'.size) (ex:∀ (i:Nat) u u',x[i]? = some u→x'[i]? = some u'→VR ok f u u'):VR ok f (.tuple x) (.tuple x')
 |wild {v:Value} (h:(∀x,v≠.agg x)∧(∀x,v≠.tuple x)∧∀ b,v≠.bool b):VR ok f (.tuple #[]) v
theorem VR.mono{ok:FuncId→Bool}{f g:Fm}(h:f.le g){v v':Value}(r:VR ok f v v'):VR ok g v v':=by
 induction r with
 |ptr e=>exact .ptr (h _ _ e)
 |slice e=>exact .slice (h _ _ e)
 |map e=>exact .map (h _ _ e)
 |chan e=>exact .chan (h _ _ e)
 |func e hx hy _ _ ix iy=>exact .func e hx hy ix iy
 |iface _ ih=>exact .iface ih
 |agg hx _ ih=>exact .agg hx ih
 |tuple hx _ ih=>exact .tuple hx ih
 |wild h=>exact .wild h
 |_=>constructor
structure AR(ok:FuncId→Bool)(f:Fm)(x x':Array Value):Prop where
 size:x.size=x'.size
 at_:∀ (i:Nat) u u',x[i]? = some u→x'[i]? = some u'→VR ok f u u'
section
variable {ok:FuncId→Bool}{f g:Fm}{x x' y y':Array Value}{v v':Value}
theorem AR.mono(h:f.le g)(r:AR ok f x x'):AR ok g x x':=⟨r.size,fun i u u' a b=>(r.at_ i u u' a b).mono h⟩
theorem AR.get(r:AR ok f x x'){i:Nat}{u:Value}(h:x[i]? = some u):∃ u',x'[i]? = some u'∧VR ok f u u':=by
 have hi:i<x'.size:=by rw[←r.size];exact(Array.getElem?_eq_some_iff.1 h).1
 exact⟨x'[i],Array.getElem?_eq_getElem hi,r.at_ i u _ h (Array.getElem?_eq_getElem hi)⟩
theorem AR.get_none(r:AR ok f x x'){i:Nat}(h:x[i]? = none):x'[i]? = none:=by
 rw[Array.getElem?_eq_none_iff]at h⊢;rw[←r.size];exact h
theorem AR.empty:AR ok f #[] #[]:=⟨rfl,fun i u u' h=>by simp at h⟩
theorem AR.push(r:AR ok f x x')(hv:VR ok f v v'):AR ok f (x.push v) (x'.push v'):=by
 refine⟨by simp[r.size],fun i u u' a b=>?_⟩;rw[Array.getElem?_push]at a b;by_cases e:i=x.size
 ·rw[if_pos e]at a;rw[if_pos (by rw[e,r.size])]at b;cases a;cases b;exact hv
 ·rw[if_neg e]at a
  rw[if_neg (by rw[←r.size];exact e)]at b;exact r.at_ i u u' a b
theorem AR.append(r:AR ok f x x')(s:AR ok f y y'):AR ok f (x++y) (x'++y'):=by
 refine⟨by simp[r.size,s.size],fun i u u' a b=>?_⟩;rw[Array.getElem?_append]at a b;by_cases e:i<x.size
 ·rw[if_pos e]at a
  rw[if_pos (by rw[←r.size];exact e)]at b;exact r.at_ i u u' a b
 ·rw[if_neg e]at a
  rw[if_neg (by rw[←r.size];exact e),←r.size]at b;exact s.at_ _ u u' a b
theorem AR.set(r:AR ok f x x')(i:Nat)(hv:VR ok f v v'):AR ok f (x.setIfInBounds i v) (x'.setIfInBounds i v'):=by
 refine⟨by simp[r.size],fun j u u' a b=>?_⟩;rw[Array.getElem?_setIfInBounds]at a b;by_cases e:i=j
 ·subst e;rw[if_pos rfl]at a b;by_cases hi:i<x.size
  ·rw[if_pos hi]at a
   rw[if_pos (by rw[←r.size];exact hi)]at b;cases a;cases b;exact hv
  ·rw[if_neg hi]at a;cases a
 ·rw[if_neg e]at a b;exact r.at_ j u u' a b
theorem AR.extract(r:AR ok f x x')(i j:Nat):AR ok f (x.extract i j) (x'.extract i j):=by
 refine⟨by simp[r.size],fun k u u' a b=>?_⟩;rw[Array.getElem?_extract]at a b;split at a
 ·split at b
  ·exact r.at_ _ u u' a b
  ·cases b
 ·cases a
theorem AR.one(hv:VR ok f v v'):AR ok f #[v] #[v']:=by
 have:=(AR.empty (ok:=ok) (f:=f)).push hv;simpa using this
theorem VR.cells(r:VR ok f v v'):AR ok f v.cells v'.cells:=by
 cases r with
 |agg hx ex=>exact⟨hx,ex⟩
 |tuple hx ex=>exact AR.one (.tuple hx ex)
 |func h hx hy ex ey=>exact AR.one (.func h hx hy ex ey)
 |iface h=>exact AR.one (.iface h)
 |ptr h=>exact AR.one (.ptr h)
 |slice h=>exact AR.one (.slice h)
 |map h=>exact AR.one (.map h)
 |chan h=>exact AR.one (.chan h)
 |wild h =>
  have e:v'.cells=#[v']:=by
   cases v' with
   |agg x=>exact absurd rfl (h.1 x)
   |_=>rfl
  rw[e];exact AR.one (.wild h)
 |_=>exact AR.one (by constructor)
theorem AR.agg(r:AR ok f x x'):VR ok f (.agg x) (.agg x'):=.agg r.size r.at_
theorem AR.tuple(r:AR ok f x x'):VR ok f (.tuple x) (.tuple x'):=.tuple r.size r.at_
end
def Flat(v:Value):Prop:=∀ ok f,VR ok f v v
theorem AR.flat{ok:FuncId→Bool}{f:Fm}{x:Array Value}(h:∀ u∈x,Flat u):AR ok f x x:=⟨rfl,fun i u u' a b=>by
 rw[a]at b;cases b
 exact h u (Array.mem_of_getElem? a) ok f⟩
inductive OR (ok:FuncId→Bool) (f:Fm):Obj→Obj→Prop
 |cells {c c':Array Value} {e:TypeId} {fr fr':Nat×Nat} (h:AR ok f c c') (hf:∀ o,fr'.1≤o→o<fr'.2→fr.1≤o∧o<fr.2):OR ok f (.cells c e fr) (.cells c' e fr')
 |map {es es':Array MapEntry} {k:Nat} (hs:es.size=es'.size) (he:∀ (i:Nat) x x',es[i]? = some x→es'[i]? = some x'→VR ok f x.key x'.key∧x.born=x'.born∧VR ok f x.val x'.val):OR ok f (.map es k) (.map es' k)
 |number {b b' o:Nat} {s:Option Nat} {l:Bool} (h:f b=some b'):OR ok f (.number ⟨b,o,s⟩ l) (.number ⟨b',o,s⟩ l)
 |stringIter (s:ByteArray) (p:Nat):OR ok f (.stringIter s p) (.stringIter s p)
theorem OR.mono{ok:FuncId→Bool}{f g:Fm}(h:f.le g){o o':Obj}(r:OR ok f o o'):OR ok g o o':=by
 cases r with
 |cells a hf=>exact .cells (a.mono h) hf
 |map hs he=>exact .map hs fun i x x' a b=>let ⟨h1,h2,h3⟩:=he i x x' a b;⟨h1.mono h,h2,h3.mono h⟩
 |number e=>exact .number (h _ _ e)
 |stringIter s p=>exact .stringIter s p
def Ice(o:Obj):Prop:=∃ c e fr,o=.cells c e fr∧fr.1=0∧c.size≤fr.2
structure Env where
 ok:FuncId→Bool
 ro:Nat→Prop
 G:Nat
structure WR(E:Env)(f:Fm)(w w':World):Prop where
 tape:w'.tape=w.tape
 drawn:w'.drawn=w.drawn
 obj:∀ r r',f r=some r'→∃ o o',w.heap[r]? = some o∧w'.heap[r']? = some o'∧OR E.ok f o o'
 inj:∀ r s x,f r=some x→f s=some x→r=s
 ice:∀ r r' o,f r=some r'→E.ro r'→w.heap[r]? = some o→Ice o
 fresh:∀ x,w'.heap.size≤x→¬ E.ro x
 glob:∀ r r',f r=some r'→E.G≤r
 gl:∀ r,r<E.G→∃ t,w.heap[r]? = some (.cells #[] t (0,0))
 big:E.G≤w.heap.size
section
variable {E:Env}{f:Fm}{w w':World}
theorem WR.lt(h:WR E f w w'){r r':Nat}(e:f r=some r'):r<w.heap.size∧r'<w'.heap.size:=by
 obtain⟨o,o',h1,h2,-⟩:=h.obj r r' e;exact⟨(Array.getElem?_eq_some_iff.1 h1).1,(Array.getElem?_eq_some_iff.1 h2).1⟩
theorem WR.load(h:WR E f w w'){b b' o:Nat}{s:Option Nat}(e:f b=some b'){v:Value}(hv:w.cell? ⟨b,o,s⟩=some v):∃ v',w'.cell? ⟨b',o,s⟩=some v'∧VR E.ok f v v':=by
 obtain⟨x,x',h1,h2,r⟩:=h.obj b b' e;unfold World.cell? at hv⊢;simp only[h1]at hv;simp only[h2]
 cases r with
 |cells a hf =>
  dsimp only at hv⊢
  by_cases hs:s.isSome=true
  ·rw[if_pos hs]at hv;cases hv
  ·rw[if_neg hs]at hv⊢;exact a.get hv
 |map=>cases hv
 |number=>cases hv
 |stringIter=>cases hv
theorem WR.miss(h:WR E f w w'){b b' o:Nat}{s:Option Nat}(e:f b=some b')(hv:w.cell? ⟨b,o,s⟩=none):∀ P at_,∃hh,w.farLoad P ⟨b,o,s⟩ at_=.error hh:=by
 obtain⟨x,x',h1,h2,r⟩:=h.obj b b' e;intro P at_;unfold World.farLoad;simp only[h1]
 cases r<;>exact⟨_,rfl⟩
theorem WR.missS(h:WR E f w w'){b b' o:Nat}{s:Option Nat}(e:f b=some b'):∀ P v at_,∃hh,w.farStore P ⟨b,o,s⟩ v at_=.error hh:=by
 obtain⟨x,x',h1,h2,r⟩:=h.obj b b' e;intro P v at_;unfold World.farStore;simp only[h1]
 cases r<;>exact⟨_,rfl⟩
theorem WR.thaw(h:WR E f w w'){b b' o:Nat}{s s':Option Nat}(e:f b=some b')(hz:w.frozen? ⟨b,o,s⟩=false):w'.frozen? ⟨b',o,s'⟩=false:=by
 obtain⟨x,x',h1,h2,r⟩:=h.obj b b' e;unfold World.frozen? at hz⊢;simp only[h1]at hz;simp only[h2]
 cases r with
 |@cells c c' el fr fr' a hf =>
  dsimp only at hz⊢
  by_cases h':fr'.1≤o∧o<fr'.2
  ·have:=hf o h'.1 h'.2;simp[this.1,this.2]at hz
  ·simp only[Bool.and_eq_false_imp,decide_eq_true_eq,decide_eq_false_iff_not];intro h1 h2;exact h' ⟨h1,h2⟩
 |map=>rfl
 |number=>rfl
 |stringIter=>rfl
theorem WR.store(h:WR E f w w'){b b' o:Nat}{s:Option Nat}(e:f b=some b'){u v v':Value}(hu:w.cell? ⟨b,o,s⟩=some u)(hz:w.frozen? ⟨b,o,s⟩=false)(hv:VR E.ok f v v') :
 ¬E.ro b'∧WR E f (w.setCell ⟨b,o,s⟩ v) (w'.setCell ⟨b',o,s⟩ v'):=by
 have hro:¬ E.ro b':=by
  intro hro;obtain⟨x,x',h1,h2,r⟩:=h.obj b b' e;obtain⟨c,el,fr,rfl,f1,f2⟩:=h.ice b b' x e hro h1;unfold World.cell? at hu;unfold World.frozen? at hz;simp only[h1]at hu hz;split at hu
  ·cases hu
  ·have:=(Array.getElem?_eq_some_iff.1 hu).1;rw[f1]at hz;simp at hz;omega
 refine⟨hro,⟨h.tape,h.drawn,fun r r' er=>?_,h.inj,fun r r' oo er hr ho=>?_,fun x hx=>h.fresh x (by simpa[World.setCell] using hx),h.glob,fun r hr=>?_,by simpa[World.setCell] using h.big⟩⟩
 ·obtain⟨x,x',h1,h2,rr⟩:=h.obj r r' er;simp only[World.setCell,Array.getElem?_modify];by_cases eb:b=r
  ·subst eb;rw[er]at e
   obtain rfl:r'=b':=by simpa using e
   rw[if_pos rfl,if_pos rfl,h1,h2];refine⟨_,_,rfl,rfl,?_⟩
   cases rr with
   |cells a hf =>
    dsimp only
    by_cases hs:s.isSome=true
    ·rw[if_pos hs,if_pos hs];exact .cells a hf
    ·rw[if_neg hs,if_neg hs];exact .cells (a.set o hv) hf
   |map hs he=>exact .map hs he
   |number e=>exact .number e
   |stringIter s p=>exact .stringIter s p
  ·have eb':b'≠r':=fun e'=>eb (h.inj b r b' e (by rw[er,e']));rw[if_neg eb,if_neg eb'];exact⟨x,x',h1,h2,rr⟩
 ·simp only[World.setCell,Array.getElem?_modify]at ho;by_cases eb:b=r
  ·subst eb;rw[er]at e
   obtain rfl:r'=b':=by simpa using e
   exact absurd hr hro
  ·rw[if_neg eb]at ho;exact h.ice r r' oo er hr ho
 ·have:=h.glob _ _ e;simp only[World.setCell,Array.getElem?_modify];rw[if_neg (by omega)];exact h.gl r hr
def Fm.add(f:Fm)(r r':Nat):Fm:=fun b=>if b=r then some r' else f b
theorem WR.le_add(h:WR E f w w'):f.le (f.add w.heap.size w'.heap.size):=by
 intro b x e;unfold Fm.add;rw[if_neg (by have:=(h.lt e).1;omega)];exact e
theorem WR.new(h:WR E f w w'){o o':Obj}(r:OR E.ok (f.add w.heap.size w'.heap.size) o o') :
 WR E (f.add w.heap.size w'.heap.size) {w with heap:=w.heap.push o} {w' with heap:=w'.heap.push o'}:=by
 have hle:=h.le_add;refine⟨h.tape,h.drawn,fun r r' e=>?_,fun r s x er es=>?_,fun r r' oo e hr ho=>?_,fun x hx=>h.fresh x (by simp at hx;omega),fun r r' e=>?_,fun r hr=>?_,by have:=h.big;simp;omega⟩
 ·simp only[Array.getElem?_push];unfold Fm.add at e;by_cases eb:r=w.heap.size
  ·rw[if_pos eb]at e;cases e;rw[if_pos eb,if_pos rfl];exact⟨_,_,rfl,rfl,‹_›⟩
  ·rw[if_neg eb]at e;obtain⟨x,x',h1,h2,rr⟩:=h.obj r r' e;have:=h.lt e;rw[if_neg eb,if_neg (by omega)];exact⟨x,x',h1,h2,rr.mono hle⟩
 ·unfold Fm.add at er es;by_cases e1:r=w.heap.size
  ·rw[if_pos e1]at er;cases er;by_cases e2:s=w.heap.size
   ·rw[e1,e2]
   ·rw[if_neg e2]at es;have:=(h.lt es).2;omega
  ·rw[if_neg e1]at er;by_cases e2:s=w.heap.size
   ·rw[if_pos e2]at es;cases es;have:=(h.lt er).2;omega
   ·rw[if_neg e2]at es;exact h.inj r s x er es
 ·simp only[Array.getElem?_push]at ho;unfold Fm.add at e;by_cases eb:r=w.heap.size
  ·rw[if_pos eb]at e;cases e;exact absurd hr (h.fresh _ (Nat.le_refl _))
  ·rw[if_neg eb]at e ho;exact h.ice r r' oo e hr ho
 ·unfold Fm.add at e;by_cases eb:r=w.heap.size
  ·rw[if_pos eb]at e;cases e;have:=h.big;omega
  ·rw[if_neg eb]at e;exact h.glob r r' e
 ·have:=h.big;simp only[Array.getElem?_push];rw[if_neg (by omega)];exact h.gl r hr
theorem WR.setObj(h:WR E f w w'){r r':Nat}(e:f r=some r'){o o':Obj}(ho:OR E.ok f o o')(hro:¬ E.ro r'):WR E f {w with heap:=w.heap.setIfInBounds r o} {w' with heap:=w'.heap.setIfInBounds r' o'}:=by
 obtain⟨l1,l2⟩:=h.lt e;refine⟨h.tape,h.drawn,fun s s' es=>?_,h.inj,fun s s' oo es hr hx=>?_,fun x hx=>h.fresh x (by simpa using hx),h.glob,fun s hs=>?_,by simpa using h.big⟩
 ·simp only[Array.getElem?_setIfInBounds];by_cases eb:r=s
  ·subst eb;rw[es]at e
   obtain rfl:s'=r':=by simpa using e
   rw[if_pos rfl,if_pos rfl,if_pos l1,if_pos l2];exact⟨_,_,rfl,rfl,ho⟩
  ·have eb':r'≠s':=fun e'=>eb (h.inj r s r' e (by rw[es,e']));rw[if_neg eb,if_neg eb'];exact h.obj s s' es
 ·by_cases eb:r=s
  ·subst eb;rw[es]at e
   obtain rfl:s'=r':=by simpa using e
   exact absurd hr hro
  ·simp only[Array.getElem?_setIfInBounds]at hx;rw[if_neg eb]at hx;exact h.ice s s' oo es hr hx
 ·have:=h.glob _ _ e;simp only[Array.getElem?_setIfInBounds];rw[if_neg (by omega)];exact h.gl s hs
end
end Co
namespace Co
def re(w:World)(τ:Nat→Question→Nat)(d:Nat):World:={w with tape:=τ,drawn:=d}
theorem bQ(w:World):re w w.tape w.drawn=w:=rfl
@[simp] theorem re_re(w:World)(τ τ':Nat→Question→Nat)(d d':Nat):re (re w τ d) τ' d'=re w τ' d':=rfl
@[simp] theorem jW(w:World)(τ:Nat→Question→Nat)(d:Nat):(re w τ d).tape=τ:=rfl
@[simp] theorem eu(w:World)(τ:Nat→Question→Nat)(d:Nat):(re w τ d).drawn=d:=rfl
@[simp] theorem dw(w:World)(τ:Nat→Question→Nat)(d:Nat):(re w τ d).heap=w.heap:=rfl
def reR{α:Type}(r:Result α)(τ:Nat→Question→Nat)(d:Nat):Result α :=
 match r with
 |.ok a w=>.ok a (re w τ d)
 |.halt h w=>.halt h (re w τ d)
def Loc(P:Program){α:Type}(s:Sem α)(w:World)(a:α)(w2:World):Prop :=
 ∃n,w2.drawn=w.drawn+n∧w2.tape=w.tape∧∀ τ d,(∀i,i<n→τ (d+i)=w.tape (w.drawn+i))→s.run P (re w τ d)=.ok a (re w2 τ (d+n))
variable {P:Program}{α γ:Type}
theorem Loc.still{s:Sem α}{w:World}{a:α}{w2:World}(hd:w2.drawn=w.drawn)(ht:w2.tape=w.tape)(h:∀ τ d,s.run P (re w τ d)=.ok a (re w2 τ d)):Loc P s w a w2:=⟨0,hd,ht,fun τ d _=>h τ d⟩
theorem Loc.bind{s:Sem α}{k:α→Sem γ}{w w2 w3:World}{a:α}{c:γ}(h:Loc P s w a w2)(hk:Loc P (k a) w2 c w3):Loc P (s >>= k) w c w3:=by
 obtain⟨n,h1,h2,h3⟩:=h;obtain⟨m,k1,k2,k3⟩:=hk;refine⟨n+m,by omega,k2.trans h2,fun τ d ht=>?_⟩;rw[Sem.run_bind,h3 τ d fun i hi=>ht i (by omega),Result.andThen_ok,k3 τ (d+n) fun i hi=>?_,Nat.add_assoc];have:=ht (n+i) (by omega);rw[Nat.add_assoc,this,h2,h1,Nat.add_assoc]
end Co
namespace Co
def EvS(ro:Nat→Prop)(h:Fm)(e:Event):Prop :=
 (∃a:Addr,e.loc=.cell a∧e.sync=false∧(∃r,h r=some a.block)∧(e.write=true→¬ ro a.block)) ∨
 (∃x,e.loc=.obj x∧e.sync=false∧(∃r,h r=some x)∧¬ ro x)∨e.loc=.mark .noRoom∨∃f,e.loc=.mark (.extern f)
theorem EvS.mono{ro:Nat→Prop}{f g:Fm}(h:f.le g){e:Event}(he:EvS ro f e):EvS ro g e:=by
 rcases he with⟨a,h1,h2,⟨r,h3⟩,h4⟩|⟨x,h1,h2,⟨r,h3⟩,h4⟩|h1
 ·exact .inl ⟨a,h1,h2,⟨r,h _ _ h3⟩,h4⟩
 ·exact .inr (.inl ⟨x,h1,h2,⟨r,h _ _ h3⟩,h4⟩)
 ·exact .inr (.inr h1)
structure Foot(ro:Nat→Prop)(g h:Fm)(w w':World):Prop where
 le:g.le h
 size:w.heap.size≤w'.heap.size
 os:w'.os=w.os
 output:w'.output=w.output
 tape:w'.tape=w.tape
 keep:∀ x,x<w.heap.size→(∀r,g r≠some x)→w'.heap[x]? = w.heap[x]?
 ice:∀ x,ro x→w'.heap[x]? = w.heap[x]?
 grow:∀ r x,h r=some x→g r=some x∨w.heap.size≤x
theorem Foot.refl{ro:Nat→Prop}{g:Fm}{w:World}:Foot ro g g w w:=⟨g.le_refl,Nat.le_refl _,rfl,rfl,rfl,fun _ _ _=>rfl,fun _ _=>rfl,fun _ _ h=>.inl h⟩
theorem Foot.trans{ro:Nat→Prop}{f g h:Fm}{a b c:World}(x:Foot ro f g a b)(y:Foot ro g h b c):Foot ro f h a c :=
 ⟨Fm.le_trans x.le y.le,Nat.le_trans x.size y.size,y.os.trans x.os,y.output.trans x.output,y.tape.trans x.tape,fun q hq hn=>by
  refine(y.keep q (Nat.lt_of_lt_of_le hq x.size) fun r hr=>?_).trans (x.keep q hq hn);rcases x.grow r q hr with h|h
  ·exact hn r h
  ·omega,fun q hq=>(y.ice q hq).trans (x.ice q hq),fun r q hr=>by
  rcases y.grow r q hr with h|h
  ·exact x.grow r q h
  ·exact .inr (Nat.le_trans x.size h)⟩
variable {P:Program}{E:Env}
def SRel(P:Program)(E:Env){α β:Type}(f:Fm)(s:Sem α)(t:Sem β)(R:Fm→α→β→Prop):Prop :=
 ∀g,f.le g→∀ w w',WR E g w w'→∀ a w2,s.run P w=.ok a w2 →
  ∃h b w2' new,(∀es,t.runT P w' es=(.ok b w2',es++new))∧WR E h w2 w2'∧R h a b∧Foot E.ro g h w' w2'∧(∀e∈new,EvS E.ro h e)∧Loc P s w a w2
section
variable {α β γ δ:Type}{f:Fm}
theorem SRel.pure{R:Fm→α→β→Prop}{a:α}{b:β}(h:∀ g,f.le g→R g a b):SRel P E f (Pure.pure a) (Pure.pure b) R:=by
 intro g hg w w' hw a' w2 hr;cases hr;exact⟨g,b,w',#[],fun es=>by rw[Array.append_empty];rfl,hw,h g hg,.refl,fun e he=>by simp at he,.still rfl rfl fun _ _=>rfl⟩
theorem SRel.bind{R:Fm→α→β→Prop}{S:Fm→γ→δ→Prop}{s:Sem α}{t:Sem β}{k:α→Sem γ}{l:β→Sem δ}(h:SRel P E f s t R)(hk:∀ g,f.le g→∀ a b,R g a b→SRel P E g (k a) (l b) S) :
 SRel P E f (s >>= k) (t >>= l) S:=by
 intro g hg w w' hw c w3 hr;rw[Sem.run_bind]at hr
 cases hs:s.run P w with
 |halt hh w2=>rw[hs]at hr;cases hr
 |ok a w2 =>
  rw[hs,Result.andThen_ok]at hr;obtain⟨g1,b,w2',n1,h1,h2,h3,h4,h5,h6⟩:=h g hg w w' hw a w2 hs;obtain⟨g2,d,w3',n2,k1,k2,k3,k4,k5,k6⟩:=hk g1 (Fm.le_trans hg h4.le) a b h3 g1 g1.le_refl w2 w2' h2 c w3 hr;refine⟨g2,d,w3',n1++n2,fun es=>?_,k2,k3,h4.trans k4,fun e he=>?_,h6.bind k6⟩
  ·show(Sem.bind t l).runT P w' es=_;rw[Sem.runT_bind',h1 es];simp only;rw[k1,Array.append_assoc]
  ·rcases Array.mem_append.1 he with he|he
   ·exact(h5 e he).mono k4.le
   ·exact k5 e he
theorem SRel.mono{R S:Fm→α→β→Prop}{s:Sem α}{t:Sem β}(h:SRel P E f s t R)(hRS:∀ g,f.le g→∀ a b,R g a b→S g a b):SRel P E f s t S:=by
 intro g hg w w' hw a w2 hr;obtain⟨g1,b,w2',n1,h1,h2,h3,h4,h5⟩:=h g hg w w' hw a w2 hr;exact⟨g1,b,w2',n1,h1,h2,hRS g1 (Fm.le_trans hg h4.le) a b h3,h4,h5⟩
theorem SRel.up{R:Fm→α→β→Prop}{s:Sem α}{t:Sem β}{g:Fm}(h:SRel P E f s t R)(hg:f.le g):SRel P E g s t R:=fun g' h'=>h g' (Fm.le_trans hg h')
theorem SRel.halt{R:Fm→α→β→Prop}{hh:Halt}{t:Sem β}:SRel P E f (Sem.halt hh) t R:=by
 intro g hg w w' hw a w2 hr;cases hr
theorem SRel.stuck{R:Fm→α→β→Prop}{why:String}{t:Sem β}:SRel P E f (stuck why) t R:=SRel.halt
theorem SRel.unsupported{R:Fm→α→β→Prop}{u:Unsupported}{t:Sem β}:SRel P E f (unsupported u) t R:=SRel.halt
theorem SRel.goPanic{R:Fm→α→β→Prop}{v:Value}{t:Sem β}:SRel P E f (goPanic v) t R:=SRel.halt
def Never(P:Program)(s:Sem α):Prop:=∀ w a w2,s.run P w≠.ok a w2
theorem SRel.never{R:Fm→α→β→Prop}{s:Sem α}{t:Sem β}(h:Never P s):SRel P E f s t R:=fun g hg w w' hw a w2 hr=>absurd hr (h w a w2)
theorem Never.bind{s:Sem α}{k:α→Sem γ}(h:∀ a,Never P (k a)):Never P (s >>= k):=by
 intro w a w2 hr;rw[Sem.run_bind]at hr
 cases hs:s.run P w with
 |halt hh w'=>rw[hs]at hr;cases hr
 |ok b w'=>rw[hs,Result.andThen_ok]at hr;exact h b w' a w2 hr
theorem Never.bind1{s:Sem α}{k:α→Sem γ}(h:Never P s):Never P (s >>= k):=by
 intro w a w2 hr;rw[Sem.run_bind]at hr
 cases hs:s.run P w with
 |halt hh w'=>rw[hs]at hr;cases hr
 |ok b w'=>exact h w b w' hs
theorem Never.halt{h:Halt}:Never P (Sem.halt h:Sem α):=fun w a w2 hr=>by cases hr
theorem kT{v:Value}:Never P (goPanic v:Sem α):=Never.halt
theorem aK(e:RuntimeError):Never P (runtimePanic e:Sem α):=by
 unfold runtimePanic;refine Never.bind fun p=>?_
 cases e<;>first
  |exact kT
  |exact Never.bind fun _=>Never.bind fun _=>kT
theorem bg(k:IntKind)(x y:Int)(c:BoundsCode):Never P (boundsPanic k x y c:Sem α):=by
 unfold boundsPanic
 dsimp only
 split
 ·exact Never.bind fun _=>aK _
 ·exact Never.bind fun _=>aK _
theorem SRel.program{R:Fm→Program→Program→Prop}(h:∀ g,f.le g→R g P P):SRel P E f program program R:=by
 intro g hg w w' hw a w2 hr;cases hr;exact⟨g,P,w',#[],fun es=>by rw[Array.append_empty];rfl,hw,h g hg,.refl,fun e he=>by simp at he,.still rfl rfl fun _ _=>rfl⟩
theorem SRel.load{a a':Addr}(ha:f a.block=some a'.block)(ho:a'.off=a.off)(hs:a'.spot=a.spot):SRel P E f (load a) (load a') (fun g v v'=>VR E.ok g v v'):=by
 obtain⟨b,o,s⟩:=a;obtain⟨b',o',s'⟩:=a';obtain rfl:o'=o:=ho;obtain rfl:s'=s:=hs;intro g hg w w' hw v w2 hr;have hb:=hg _ _ ha;simp only[Go.load,Sem.run]at hr
 cases hc:w.cell? ⟨b,o',s'⟩ with
 |none =>
  obtain⟨hh,hf⟩:=hw.miss hb hc P (Mode.plain==Mode.atomic);rw[hc]at hr;simp only[hf]at hr;cases hr
 |some u =>
  rw[hc]at hr;cases hr;obtain⟨v',h1,h2⟩:=hw.load hb hc;refine⟨g,v',w',#[⟨.cell ⟨b',o',s'⟩,false,false⟩],fun es=>?_,hw,h2,.refl,fun e he=>?_,.still rfl rfl fun τ d=>?_⟩
  ·simp only[Go.load,Sem.runT,h1];rfl
  ·simp at he;subst he;exact .inl ⟨_,rfl,rfl,⟨b,hb⟩,fun h=>by cases h⟩
  ·have hc':(re w τ d).cell? ⟨b,o',s'⟩=some v:=hc;simp only[Go.load,Sem.run,hc']
theorem lK{m:Mode}{a:Addr}{v:Value}{k:Sem α}{w:World}(hv:∀ x,v≠.agg x)(hv':∀ x,v≠.tuple x):(Sem.store m a v k).run P w=match w.cell? a with
 |some _=>if w.frozen? a then .halt (.unsupported (.unsafePointer "a write to bytes that a string shares")) w else k.run P (w.setCell a v)
 |none=>match w.farStore P a v (m==.atomic) with
  |.ok (w,_)=>k.run P w
  |.error h=>.halt h w:=by
 cases v<;>first|rfl|exact absurd rfl (hv _)|exact absurd rfl (hv' _)
theorem one_cell_runT{m:Mode}{a:Addr}{v:Value}{k:Sem α}{w:World}{es:Array Event}(hv:∀ x,v≠.agg x)(hv':∀ x,v≠.tuple x):(Sem.store m a v k).runT P w es=match w.cell? a with
 |some _ =>
  if w.frozen? a then(.halt (.unsupported (.unsafePointer "a write to bytes that a string shares")) w,es)
  else k.runT P (w.setCell a v) (es.push ⟨.cell a,true,m==.atomic⟩)
 |none=>match w.farStore P a v (m==.atomic) with
  |.ok (w,touched)=>k.runT P w (es++touched.toArray.map (⟨.cell ·,true,m==.atomic⟩))
  |.error h=>(.halt h w,es):=by
 cases v<;>first|rfl|exact absurd rfl (hv _)|exact absurd rfl (hv' _)
theorem VR.one{ok:FuncId→Bool}{g:Fm}{v v':Value}(h:VR ok g v v')(hv:∀ x,v≠.agg x)(hv':∀ x,v≠.tuple x):(∀x,v'≠.agg x)∧(∀x,v'≠.tuple x):=by
 cases h with
 |agg=>exact absurd rfl (hv _)
 |tuple=>exact absurd rfl (hv' _)
 |wild=>exact absurd rfl (hv' _)
 |_=>constructor<;>intro x hx<;>cases hx
theorem SRel.store{a a':Addr}{v v':Value}(ha:f a.block=some a'.block)(ho:a'.off=a.off)(hs:a'.spot=a.spot)(hv:VR E.ok f v v'):SRel P E f (store a v) (store a' v') (fun _ _ _=>True):=by
 obtain⟨b,o,s⟩:=a;obtain⟨b',o',s'⟩:=a';obtain rfl:o'=o:=ho;obtain rfl:s'=s:=hs;intro g hg w w' hw u w2 hr;have hb:=hg _ _ ha;by_cases h1:∃ x,v=.agg x
 ·obtain⟨x,rfl⟩:=h1;cases hr
 by_cases h2:∃ x,v=.tuple x
 ·obtain⟨x,rfl⟩:=h2;cases hr
 have k1:∀ x,v≠.agg x:=fun x e=>h1 ⟨x,e⟩;have k2:∀ x,v≠.tuple x:=fun x e=>h2 ⟨x,e⟩;obtain⟨k3,k4⟩:=hv.one k1 k2;unfold Go.store at hr⊢;rw[lK k1 k2]at hr
 cases hc:w.cell? ⟨b,o',s'⟩ with
 |none =>
  obtain⟨hh,hf⟩:=hw.missS hb (o:=o') (s:=s') P v (Mode.plain==Mode.atomic);rw[hc]at hr;simp only[hf]at hr;cases hr
 |some y =>
  rw[hc]at hr;simp only at hr
  cases hz:w.frozen? ⟨b,o',s'⟩ with
  |true=>rw[hz]at hr;cases hr
  |false =>
   rw[hz]at hr;simp only[Bool.false_eq_true,if_false]at hr;cases hr;obtain⟨y',h5,-⟩:=hw.load hb hc;obtain⟨hro,hw2⟩:=hw.store hb hc hz (hv.mono hg);refine⟨g,(),w'.setCell ⟨b',o',s'⟩ v',#[⟨.cell ⟨b',o',s'⟩,true,false⟩],fun es=>?_,hw2,trivial,?_,fun e he=>?_,.still rfl rfl fun τ d=>?_⟩
   ·rw[one_cell_runT k3 k4,h5];simp only[hw.thaw hb hz (s':=s'),Bool.false_eq_true,if_false];rfl
   ·refine⟨g.le_refl,by simp[World.setCell],rfl,rfl,rfl,fun x hx hn=>?_,fun x hx=>?_,fun r x h=>.inl h⟩
    ·simp only[World.setCell,Array.getElem?_modify]
     rw[if_neg (fun e=>hn b (by rw[hb];exact congrArg some e))]
    ·simp only[World.setCell,Array.getElem?_modify]
     rw[if_neg (fun e=>hro (by subst e;exact hx))]
   ·simp at he;subst he;exact .inl ⟨_,rfl,rfl,⟨b,hb⟩,fun _=>hro⟩
   ·have hc':(re w τ d).cell? ⟨b,o',s'⟩=some y:=hc;have hz':(re w τ d).frozen? ⟨b,o',s'⟩=false:=hz;rw[lK k1 k2,hc'];simp only[hz',Bool.false_eq_true,if_false];rfl
theorem SRel.new{o o':Obj}(h:OR E.ok f o o'):SRel P E f (newObj o) (newObj o') (fun g r r'=>g r=some r'):=by
 intro g hg w w' hw r w2 hr;cases hr;have hle:=hw.le_add
 refine⟨g.add w.heap.size w'.heap.size,w'.heap.size,_,#[],fun es=>by rw[Array.append_empty];rfl,hw.new (h.mono (Fm.le_trans hg hle)),by show(if w.heap.size=w.heap.size then some w'.heap.size else g w.heap.size)=_;rw[if_pos rfl],
  ⟨hle,by simp,rfl,rfl,rfl,fun x hx _=>?_,fun x hx=>?_,fun r x hr=>?_⟩,fun e he=>by simp at he,.still rfl rfl fun _ _=>rfl⟩
 ·simp only[Array.getElem?_push];rw[if_neg (by omega)]
 ·simp only[Array.getElem?_push];rw[if_neg (fun e=>hw.fresh x (by omega) hx)]
 ·unfold Fm.add at hr;split at hr
  ·cases hr;exact .inr (Nat.le_refl _)
  ·exact .inl hr
theorem SRel.choose{q:Question}:SRel P E f (choose q) (choose q) (fun _ a b=>a=b):=by
 intro g hg w w' hw a w2 hr;simp only[Go.choose,Sem.run]at hr;by_cases hq:q.forced=true
 ·rw[if_pos hq]at hr;cases hr;exact⟨g,0,w',#[],fun es=>by rw[Array.append_empty];simp only[Go.choose,Sem.runT];rw[if_pos hq],hw,rfl,.refl,fun e he=>by simp at he,.still rfl rfl fun τ d=>by simp only[Go.choose,Sem.run];rw[if_pos hq]⟩
 ·rw[if_neg hq]at hr;cases hr;refine⟨g,q.cut (w.tape w.drawn q),{w' with drawn:=w'.drawn+1},#[],fun es=>?_,?_,rfl,⟨g.le_refl,Nat.le_refl _,rfl,rfl,rfl,fun _ _ _=>rfl,fun _ _=>rfl,fun _ _ h=>.inl h⟩,fun e he=>by simp at he,1,rfl,rfl,fun τ d ht=>?_⟩
  ·rw[Array.append_empty];simp only[Go.choose,Sem.runT];rw[if_neg hq,hw.tape,hw.drawn]
  ·exact⟨hw.tape,by show w'.drawn+1=w.drawn+1;rw[hw.drawn],hw.obj,hw.inj,hw.ice,hw.fresh,hw.glob,hw.gl,hw.big⟩
  ·have:=ht 0 (by omega);simp only[Nat.add_zero]at this;simp only[Go.choose,Sem.run];rw[if_neg hq];simp only[jW,eu,this];rfl
theorem SRel.mark{m:Mark}(h:m=.noRoom∨∃i,m=.extern i):SRel P E f (mark m) (mark m) (fun _ _ _=>True):=by
 intro g hg w w' hw a w2 hr;cases hr;refine⟨g,(),w',#[⟨.mark m,false,true⟩],fun es=>rfl,hw,trivial,.refl,fun e he=>?_,.still rfl rfl fun _ _=>rfl⟩;simp at he;subst he;rcases h with rfl|⟨i,rfl⟩
 ·exact .inr (.inr (.inl rfl))
 ·exact .inr (.inr (.inr ⟨i,rfl⟩))
def Glob(E:Env)(f:Fm):Prop:=∀ r r',f r=some r'→E.G≤r
theorem SRel.glob{R:Fm→α→β→Prop}{s:Sem α}{t:Sem β}(h:∀ g,f.le g→Glob E g→SRel P E g s t R):SRel P E f s t R :=
 fun g hg w w' hw=>h g hg hw.glob g g.le_refl w w' hw
def Inj(f:Fm):Prop:=∀ r s x,f r=some x→f s=some x→r=s
theorem SRel.inj{R:Fm→α→β→Prop}{s:Sem α}{t:Sem β}(h:∀ g,f.le g→Inj g→SRel P E g s t R):SRel P E f s t R :=
 fun g hg w w' hw=>h g hg hw.inj g g.le_refl w w' hw
theorem SRel.shape{r r':Nat}(h:f r=some r'):SRel P E f (shape r) (shape r') (fun _ a b=>a=b):=by
 intro g hg w w' hw a w2 hr;cases hr;refine⟨g,w'.shape? r',w',#[],fun es=>by rw[Array.append_empty];rfl,hw,?_,.refl,fun e he=>by simp at he,.still rfl rfl fun _ _=>rfl⟩;obtain⟨o,o',h1,h2,rr⟩:=hw.obj r r' (hg _ _ h);unfold World.shape?;rw[h1,h2]
 cases rr with
 |cells a hf=>simp[a.size]
 |map=>rfl
 |number=>rfl
 |stringIter=>rfl
theorem SRel.getObj{r r':Nat}(h:f r=some r'):SRel P E f (getObj r) (getObj r') (fun g o o'=>OR E.ok g o o'):=by
 intro g hg w w' hw a w2 hr;have hb:=hg _ _ h;obtain⟨o,o',h1,h2,rr⟩:=hw.obj r r' hb;simp only[Go.getObj,Sem.run,h1]at hr
 have hro:∀ {x},w.heap[r]? = some x→(∀c e fr,x≠.cells c e fr)→¬ E.ro r':=fun hx hn hro=>by
  obtain⟨c,e,fr,he,-⟩:=hw.ice r r' _ hb hro hx;exact hn c e fr he
 cases rr with
 |cells a hf=>cases hr
 |map hs he =>
  cases hr;refine⟨g,_,w',#[⟨.obj r',false,false⟩],fun es=>?_,hw,.map hs he,.refl,fun e he=>?_,.still rfl rfl fun τ d=>?_⟩
  ·simp only[Go.getObj,Sem.runT,h2];rfl
  ·simp at he;subst he;exact .inr (.inl ⟨_,rfl,rfl,⟨r,hb⟩,hro h1 (fun _ _ _ h=>by cases h)⟩)
  ·simp only[Go.getObj,Sem.run,dw,h1]
 |number e =>
  cases hr;refine⟨g,_,w',#[⟨.obj r',false,false⟩],fun es=>?_,hw,.number e,.refl,fun e he=>?_,.still rfl rfl fun τ d=>?_⟩
  ·simp only[Go.getObj,Sem.runT,h2];rfl
  ·simp at he;subst he;exact .inr (.inl ⟨_,rfl,rfl,⟨r,hb⟩,hro h1 (fun _ _ _ h=>by cases h)⟩)
  ·simp only[Go.getObj,Sem.run,dw,h1]
 |stringIter s p =>
  cases hr;refine⟨g,_,w',#[⟨.obj r',false,false⟩],fun es=>?_,hw,.stringIter s p,.refl,fun e he=>?_,.still rfl rfl fun τ d=>?_⟩
  ·simp only[Go.getObj,Sem.runT,h2];rfl
  ·simp at he;subst he;exact .inr (.inl ⟨_,rfl,rfl,⟨r,hb⟩,hro h1 (fun _ _ _ h=>by cases h)⟩)
  ·simp only[Go.getObj,Sem.run,dw,h1]
theorem SRel.setObj{r r':Nat}{o o':Obj}(h:f r=some r')(ho:OR E.ok f o o')(hc:o.isChan=false∧o'.isChan=false):SRel P E f (setObj r o) (setObj r' o') (fun _ _ _=>True):=by
 intro g hg w w' hw a w2 hr;have hb:=hg _ _ h;obtain⟨x,x',h1,h2,rr⟩:=hw.obj r r' hb
 have hro:(∀c e fr,x≠.cells c e fr)→¬ E.ro r':=fun hn hro=>by
  obtain⟨c,e,fr,he,-⟩:=hw.ice r r' _ hb hro h1;exact hn c e fr he
 have e1:(Go.setObj r o).run P w=(match w.heap[r]? with
  |some (.cells ..)=>.halt (.stuck "setObj: a row of cells") w
  |some _=>.ok () {w with heap:=w.heap.setIfInBounds r o}
  |none=>.halt (.stuck "setObj: no such block") w):=rfl
 rw[e1,h1]at hr
 have fin:(∀c e fr,x≠.cells c e fr)→(∀c e fr,x'≠.cells c e fr)→w2={w with heap:=w.heap.setIfInBounds r o}→∃ h b w2' new,(∀es,(Go.setObj r' o').runT P w' es=(.ok b w2',es++new))∧WR E h w2 w2'∧True∧Foot E.ro g h w' w2'∧(∀e∈new,EvS E.ro h e)∧Loc P (Go.setObj r o) w a w2:=by
  intro hx hx' e;subst e;have hr':=hro hx;refine⟨g,(),{w' with heap:=w'.heap.setIfInBounds r' o'},#[⟨.obj r',true,o'.isChan⟩],fun es=>?_,hw.setObj hb (ho.mono hg) hr',trivial,⟨g.le_refl,by simp,rfl,rfl,rfl,fun q hq hn=>?_,fun q hq=>?_,fun _ _ h=>.inl h⟩,fun e he=>?_,?_⟩
  ·show(match w'.heap[r']? with
    |some (.cells ..)=>((.halt (.stuck "setObj: a row of cells") w':Result Unit),es)
    |some _=>(.ok () {w' with heap:=w'.heap.setIfInBounds r' o'},es.push ⟨.obj r',true,o'.isChan⟩)
    |none=>(.halt (.stuck "setObj: no such block") w',es))=_
   rw[h2]
   cases x' with
   |cells c e fr=>exact absurd rfl (hx' c e fr)
   |_=>rfl
  ·simp only[Array.getElem?_setIfInBounds]
   rw[if_neg (fun e:r'=q=>hn r (by rw[←e];exact hb))]
  ·simp only[Array.getElem?_setIfInBounds];rw[if_neg (fun e:r'=q=>hr' (e▸hq))]
  ·simp at he;subst he;exact .inr (.inl ⟨r',rfl,hc.2,⟨r,hb⟩,hr'⟩)
  ·refine .still rfl rfl fun τ d=>?_
   show(match (re w τ d).heap[r]? with
    |some (.cells ..)=>(.halt (.stuck "setObj: a row of cells") (re w τ d):Result Unit)
    |some _=>.ok () {(re w τ d) with heap:=(re w τ d).heap.setIfInBounds r o}
    |none=>.halt (.stuck "setObj: no such block") (re w τ d))=_
   simp only[dw,h1]
   cases x with
   |cells c e fr=>exact absurd rfl (hx c e fr)
   |_=>rfl
 cases rr with
 |cells=>cases hr
 |map=>cases hr;exact fin (fun _ _ _ h=>by cases h) (fun _ _ _ h=>by cases h) rfl
 |number=>cases hr;exact fin (fun _ _ _ h=>by cases h) (fun _ _ _ h=>by cases h) rfl
 |stringIter=>cases hr;exact fin (fun _ _ _ h=>by cases h) (fun _ _ _ h=>by cases h) rfl
theorem SRel.deadGlobal{β:Type}{r o:Nat}{s:Option Nat}(h:r<E.G){t:Sem β}{R:Fm→Value→β→Prop}:SRel P E f (Go.load ⟨r,o,s⟩) t R:=by
 intro g hg w w' hw a w2 hr;exfalso;obtain⟨ty,e⟩:=hw.gl r h
 have h1:w.cell? ⟨r,o,s⟩=none:=by
  unfold World.cell?;simp only[e];split
  ·rfl
  ·rfl
 simp only[Go.load,Sem.run,h1,World.farLoad,e]at hr;cases hr
end
end Co
namespace Co
variable {P:Program}{E:Env}{f:Fm}
def Det{α:Type}(P:Program)(s:Sem α):Prop:=(∃a,∀w,s.run P w=.ok a w∧∀ es,s.runT P w es=(.ok a w,es))∨Never P s
section
variable {α β γ δ:Type}
theorem SRel.det{s:Sem α}(h:Det P s):SRel P E f s s (fun _ a b=>a=b):=by
 rcases h with⟨a,h⟩|h
 ·intro g hg w w' hw a' w2 hr;rw[(h w).1]at hr;cases hr;exact⟨g,a,w',#[],fun es=>by rw[Array.append_empty];exact(h w').2 es,hw,rfl,.refl,fun e he=>by simp at he,.still rfl rfl fun _ _=>(h _).1⟩
 ·exact .never h
theorem eG(a:α):Det P (Pure.pure a:Sem α):=.inl ⟨a,fun w=>⟨rfl,fun es=>rfl⟩⟩
theorem det_stuck(why:String):Det P (stuck why:Sem α):=.inr Never.halt
theorem det_unsupported(u:Unsupported):Det P (unsupported u:Sem α):=.inr Never.halt
theorem det_program:Det P program:=.inl ⟨P,fun w=>⟨rfl,fun es=>rfl⟩⟩
theorem Det.bind{s:Sem α}{k:α→Sem γ}(h:Det P s)(hk:∀ a,Det P (k a)):Det P (s >>= k):=by
 rcases h with⟨a,h⟩|h
 ·rcases hk a with⟨c,hc⟩|hc
  ·refine .inl ⟨c,fun w=>⟨?_,fun es=>?_⟩⟩
   ·rw[Sem.run_bind,(h w).1,Result.andThen_ok];exact(hc w).1
   ·show(Sem.bind s k).runT P w es=_;rw[Sem.runT_bind',(h w).2 es];exact(hc w).2 es
  ·right;intro w b w2 hr;rw[Sem.run_bind,(h w).1,Result.andThen_ok]at hr;exact hc w b w2 hr
 ·exact .inr (Never.bind1 h)
theorem dn(t:TypeId):Det P (typeInfo t):=by
 unfold typeInfo;refine det_program.bind fun p=>?_;split
 ·exact eG _
 ·exact det_stuck _
theorem eF(t:TypeId):Det P (underlying t):=by
 unfold underlying;refine det_program.bind fun p=>?_;split
 ·exact eG _
 ·exact det_stuck _
theorem aU(t:TypeId):Det P (sizeOf t):=(dn t).bind fun _=>eG _
theorem det_isAgg(t:TypeId):Det P (isAgg t):=by
 unfold isAgg;refine(eF t).bind fun d=>?_
 split<;>exact eG _
theorem kU(t:TypeId):Det P (zeroValue t):=by
 unfold zeroValue;refine(dn t).bind fun i=>?_;split
 ·exact eG _
 ·exact det_unsupported _
end
def ZFlat(P:Program)(t:TypeId):Prop:=∀ i v,P.info? t=some i→i.zero=some v→Flat v
theorem jM(t:TypeId)(w:World):(typeInfo t).run P w=(match P.info? t with|some i=>Result.ok i w|none=>Result.halt (.stuck "no such type") w):=by
 unfold typeInfo;rw[Sem.run_bind];have e:(Go.program).run P w=.ok P w:=rfl;rw[e,Result.andThen_ok]
 cases P.info? t<;>rfl
theorem SRel.zero{t:TypeId}(h:ZFlat P t):SRel P E f (zeroValue t) (zeroValue t) (fun _ a b=>a=b∧Flat a):=by
 intro g hg w w' hw a w2 hr;obtain⟨g1,b,w2',n,k1,k2,k3,k4,k5⟩:=SRel.det (E:=E) (f:=f) (kU (P:=P) t) g hg w w' hw _ _ hr;refine⟨g1,b,w2',n,k1,k2,⟨k3,?_⟩,k4,k5⟩;unfold zeroValue at hr;rw[Sem.run_bind,jM]at hr
 cases hi:P.info? t with
 |none=>rw[hi]at hr;cases hr
 |some i =>
  rw[hi]at hr;simp only[Result.andThen_ok]at hr
  cases hz:i.zero with
  |none=>rw[hz]at hr;cases hr
  |some v =>
   rw[hz]at hr;cases hr;exact h i _ hi hz
def DR(f:Fm)(a a':Addr):Prop:=f a.block=some a'.block∧a'.off=a.off∧a'.spot=a.spot
theorem DR.mono{f g:Fm}(h:f.le g){a a':Addr}(r:DR f a a'):DR g a a':=⟨h _ _ r.1,r.2⟩
theorem DR.add{a a':Addr}(r:DR f a a')(i:Nat):DR f (a.add i) (a'.add i):=by
 obtain⟨b,o,s⟩:=a;obtain⟨b',o',s'⟩:=a';obtain⟨h1,h2,h3⟩:=r;simp only at h1 h2 h3;subst h2 h3;unfold Addr.add
 dsimp only
 refine⟨?_,?_,?_⟩<;>(try split)<;>simp_all
theorem DR.ptr{a a':Addr}(r:DR f a a'):VR E.ok f (.pointer (some a)) (.pointer (some a')):=by
 obtain⟨b,o,s⟩:=a;obtain⟨b',o',s'⟩:=a';obtain⟨h1,h2,h3⟩:=r;simp only at h1 h2 h3;subst h2 h3;exact .ptr h1
theorem DR.slice{a a':Addr}(r:DR f a a')(n c:Nat):VR E.ok f (.slice (some a) n c) (.slice (some a') n c):=by
 obtain⟨b,o,s⟩:=a;obtain⟨b',o',s'⟩:=a';obtain⟨h1,h2,h3⟩:=r;simp only at h1 h2 h3;subst h2 h3;exact .slice h1
theorem VR.ptr_inv{a:Addr}{v':Value}(h:VR E.ok f (.pointer (some a)) v'):∃ a',v'=.pointer (some a')∧DR f a a':=by
 cases h with
 |ptr h=>exact⟨_,rfl,h,rfl,rfl⟩
theorem SRel.loadD{a a':Addr}(h:DR f a a'):SRel P E f (Go.load a) (Go.load a') (fun g v v'=>VR E.ok g v v'):=SRel.load h.1 h.2.1 h.2.2
theorem SRel.loadCellsFrom{a a':Addr}(h:DR f a a'):∀ (n i:Nat) (acc acc':Array Value),AR E.ok f acc acc'→SRel P E f (Go.loadCellsFrom a i n acc) (Go.loadCellsFrom a' i n acc') (fun g x y=>AR E.ok g x y):=by
 intro n
 induction n generalizing f with
 |zero=>intro i acc acc' hacc;exact SRel.pure fun g hg=>hacc.mono hg
 |succ n ih =>
  intro i acc acc' hacc;unfold Go.loadCellsFrom;exact(SRel.loadD (h.add i)).bind fun g hg v v' hv=>ih (h.mono hg) (i+1) _ _ ((hacc.mono hg).push hv)
theorem SRel.loadCells{a a':Addr}(h:DR f a a')(n:Nat):SRel P E f (Go.loadCells a n) (Go.loadCells a' n) (fun g x y=>AR E.ok g x y):=SRel.loadCellsFrom h n 0 _ _ .empty
def LR(ok:FuncId→Bool)(f:Fm)(l l':List Value):Prop:=AR ok f l.toArray l'.toArray
theorem LR.cons_inv{v:Value}{l l':List Value}(h:LR E.ok f (v::l) l'):∃ v' m,l'=v'::m∧VR E.ok f v v'∧LR E.ok f l m:=by
 cases l' with
 |nil=>have:=h.size;simp at this
 |cons v' m =>
  refine⟨v',m,rfl,h.at_ 0 v v' (by simp) (by simp),by have:=h.size;simpa using this,fun i u u' a b=>h.at_ (i+1) u u' (by simpa using a) (by simpa using b)⟩
theorem LR.nil_inv{l':List Value}(h:LR E.ok f [] l'):l'=[]:=by
 have:=h.size;simp at this;exact List.length_eq_zero_iff.1 this.symm
theorem AR.list{x x':Array Value}(h:AR E.ok f x x'):LR E.ok f x.toList x'.toList:=h
theorem LR.mono{g:Fm}(h:f.le g){l l':List Value}(r:LR E.ok f l l'):LR E.ok g l l':=AR.mono h r
theorem SRel.storeCells{a a':Addr}(h:DR f a a'):∀ (l l':List Value) (i:Nat),LR E.ok f l l'→SRel P E f (Go.storeCells a l i) (Go.storeCells a' l' i) (fun _ _ _=>True):=by
 intro l
 induction l generalizing f with
 |nil =>
  intro l' i hl;obtain rfl:=hl.nil_inv;exact SRel.pure fun _ _=>trivial
 |cons v l ih =>
  intro l' i hl;obtain⟨v',m,rfl,hv,hm⟩:=hl.cons_inv;unfold Go.storeCells;have hd:=h.add i;exact(SRel.store hd.1 hd.2.1 hd.2.2 hv).bind fun g hg _ _ _=>ih (h.mono hg) m (i+1) (hm.mono hg)
theorem SRel.loadVar{t:TypeId}{a a':Addr}(h:DR f a a'):SRel P E f (Go.loadVar t a) (Go.loadVar t a') (fun g v v'=>VR E.ok g v v'):=by
 unfold Go.loadVar;refine(SRel.det (det_isAgg t)).bind fun g hg b b' e=>?_;subst e
 cases b with
 |false=>exact SRel.loadD (h.mono hg)
 |true =>
  refine(SRel.det (aU t)).bind fun g1 hg1 n n' e=>?_;subst e;exact(SRel.loadCells (h.mono (Fm.le_trans hg hg1)) n).bind fun g2 hg2 x y hxy=>SRel.pure fun g3 hg3=>(hxy.mono hg3).agg
theorem SRel.storeVar{t:TypeId}{a a':Addr}{v v':Value}(h:DR f a a')(hv:VR E.ok f v v'):SRel P E f (Go.storeVar t a v) (Go.storeVar t a' v') (fun _ _ _=>True):=by
 unfold Go.storeVar;refine(SRel.det (aU t)).bind fun g hg n n' e=>?_;subst e;rw[hv.cells.size];split
 ·exact SRel.bind SRel.stuck (R:=fun _ _ _=>True) fun g1 hg1 _ _ _=>SRel.storeCells ((h.mono hg).mono hg1) _ _ 0 ((hv.mono (Fm.le_trans hg hg1)).cells.list)
 ·exact SRel.storeCells (h.mono hg) _ _ 0 ((hv.mono hg).cells.list)
theorem SRel.newRow{t:TypeId}{x x':Array Value}(h:AR E.ok f x x'):SRel P E f (Go.newRow t x) (Go.newRow t x') (fun g a a'=>DR g a a'):=by
 unfold Go.newRow;exact(SRel.new (.cells h (fun o h1 h2=>⟨h1,h2⟩))).bind fun g hg r r' hr=>SRel.pure fun g1 hg1=>⟨hg1 _ _ hr,rfl,rfl⟩
theorem SRel.newVar{t:TypeId}{v v':Value}(h:VR E.ok f v v'):SRel P E f (Go.newVar t v) (Go.newVar t v') (fun g a a'=>DR g a a'):=SRel.newRow h.cells
theorem SRel.part{t:TypeId}{x x':Array Value}(h:AR E.ok f x x')(off:Nat):SRel P E f (Go.part t x off) (Go.part t x' off) (fun g v v'=>VR E.ok g v v'):=by
 unfold Go.part;refine(SRel.det (det_isAgg t)).bind fun g hg b b' e=>?_;subst e
 cases b with
 |true =>
  refine(SRel.det (aU t)).bind fun g1 hg1 n n' e=>?_;subst e;exact SRel.pure fun g2 hg2=>((h.mono (Fm.le_trans hg (Fm.le_trans hg1 hg2))).extract _ _).agg
 |false =>
  simp only[Bool.false_eq_true,if_false]
  cases hx:x[off]? with
  |none=>exact SRel.stuck
  |some u =>
   obtain⟨u',h1,h2⟩:=h.get hx;rw[h1];exact SRel.pure fun g1 hg1=>h2.mono (Fm.le_trans hg hg1)
theorem SRel.asIntOf{v v':Value}(h:VR E.ok f v v'):SRel P E f (Go.asIntOf v) (Go.asIntOf v') (fun _ a b=>a=b):=by
 cases h with
 |int k n=>exact SRel.pure fun _ _=>rfl
 |ptr h=>exact SRel.unsupported
 |_=>exact SRel.stuck
theorem SRel.asInt{v v':Value}(h:VR E.ok f v v'):SRel P E f (Go.asInt v) (Go.asInt v') (fun _ a b=>a=b):=by
 unfold Go.asInt
 exact(SRel.asIntOf h).bind fun g hg a b e=>SRel.pure fun _ _=>by rw[e]
theorem SRel.asBool{v v':Value}(h:VR E.ok f v v'):SRel P E f (Go.asBool v) (Go.asBool v') (fun _ a b=>a=b):=by
 cases h with
 |bool b=>exact SRel.pure fun _ _=>rfl
 |_=>exact SRel.stuck
theorem SRel.askRoom(n:Nat):SRel P E f (Go.askRoom n) (Go.askRoom n) (fun _ _ _=>True):=by
 unfold Go.askRoom;split
 ·exact SRel.mark (.inl rfl)
 ·exact SRel.pure fun _ _=>trivial
end Co
