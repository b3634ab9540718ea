/- The law TopNotes: what stands while it goes round. -/
import Derived.Test.YtlaipigilikmbaaGreatDoorNoteWMb
import Derived.Test.YtlaipigilikmbaaGreatDoorMb35
import Derived.Test.YtlaipigilikmbaaGreatDoorMb30
namespace Go.Proofs.YtlaipigilikmbaaGreatDoor
noncomputable section
set_option linter.unusedVariables false
namespace NoteW
open Conc RowKit Co Cl Ph NoteP RecW SlotW SlotP
def Ag(b2:Nat)(a b:Array Obj):Prop:=a.size≤b.size∧∀ k,k<a.size→k≠b2→b[k]? = a[k]?
theorem Ag.of{b2:Nat}{a b:Array Obj}(h:HB a b):Ag b2 a b:=⟨h.1,fun k hk _=>h.2 k hk⟩
def Two(w:World)(b2:Nat)(s0 s1:Value):Prop:=w.heap[b2]? = some (.cells #[s0,s1] 26 (0,0))
theorem lL{w w':World}{b2 b o:Nat}{v:Value}(h:Ag b2 w.heap w'.heap)(hb:b≠b2)(hc:w.cell? ⟨b,o,none⟩=some v):w'.cell? ⟨b,o,none⟩=some v:=by
 have hl:b<w.heap.size:=World.block_lt_of_cell? w _ hc;unfold World.cell? at hc⊢;simp only at hc⊢;rw[h.2 b hl hb];exact hc
def IsS(v:Value):Prop:=∃ A n c,v=.slice A n c
theorem two_int{w:World}{b2 b o:Nat}{s0 s1:Value}{k:IntKind}{n:Int}(h:Two w b2 s0 s1)(h0:IsS s0)(h1:IsS s1)(hc:w.cell? ⟨b,o,none⟩=some (.int k n)):b≠b2:=by
 rintro rfl;have e:=Bk.cell (w:=w) (g:=b) (t:=26) (cs:=#[s0,s1]) h o;rw[e]at hc;obtain⟨_,_,_,rfl⟩:=h0;obtain⟨_,_,_,rfl⟩:=h1;rcases o with _|_|o
 ·cases hc
 ·cases hc
 ·cases hc
theorem rde_ag{w w':World}{b2:Nat}{s0 s1 v:Value}{es:List E3}(h:RdE w v es)(ha:Ag b2 w.heap w'.heap)(h2:Two w b2 s0 s1)(h0:IsS s0)(h1:IsS s1):RdE w' v es:=by
 obtain⟨A,c,hv,h⟩:=h;refine⟨A,c,hv,fun i e hi=>?_⟩;obtain⟨b,off,hA,a1,a2,a3⟩:=h i e hi;exact⟨b,off,hA,lL ha (two_int h2 h0 h1 a1) a1,lL ha (two_int h2 h0 h1 a1) a2,lL ha (two_int h2 h0 h1 a1) a3⟩
def Off(b2:Nat)(A:Option Addr):Prop:=∀ a,A=some a→a.block≠b2
theorem rdb_ag{w w':World}{b2 n c:Nat}{A:Option Addr}{s0 s1:Value}{ls:List (List E3)}(h:RdB w (.slice A n c) ls)(ha:Ag b2 w.heap w'.heap)(h2:Two w b2 s0 s1)(h0:IsS s0)(h1:IsS s1)(ho:ls=[]∨Off b2 A):RdB w' (.slice A n c) ls:=by
 obtain⟨A',c',hv,h⟩:=h;injection hv with e1 e2 e3;subst e1 e2 e3;refine⟨A,c,rfl,fun i es hi=>?_⟩;obtain⟨b,off,ve,rfl,a1,a2⟩:=h i es hi
 have ho':Off b2 (some ⟨b,off,none⟩):=ho.resolve_left fun e=>by
  rw[e]at hi;simp at hi
 exact⟨b,off,ve,rfl,lL ha (ho' _ rfl) a1,rde_ag a2 ha h2 h0 h1⟩
theorem rd_ag{w w':World}{b2:Nat}{A:Option Addr}{s0 s1:Value}{xs:List Value}(h:Rd w A xs)(hx:Nums xs)(ha:Ag b2 w.heap w'.heap)(h2:Two w b2 s0 s1)(h0:IsS s0)(h1:IsS s1):Rd w' A xs:=by
 rcases h with h|⟨b,off,rfl,h⟩
 ·exact .inl h
 ·refine .inr ⟨b,off,rfl,fun i u hu=>?_⟩;obtain⟨k,n,rfl⟩:=hx u (List.mem_of_getElem? hu);have:=h i _ hu;exact lL ha (two_int h2 h0 h1 this) this
theorem nums_i64(xs:List Int):Nums (LwW.i64v xs):=fun u hu=>by
 unfold LwW.i64v at hu;obtain⟨x,-,rfl⟩:=List.mem_map.1 hu;exact⟨_,_,rfl⟩
def bJ(w:World)(v:Value)(l:List UInt8):Prop :=
 (v=.slice none 0 0∧l=[])∨∃g c cur,v=.slice (some ⟨g,0,none⟩) l.length c∧0<c∧l.length≤c∧c≤maxLen∧w.heap[g]? = some (.cells cur 5 (0,0))∧Nums cur.toList∧Rd w (some ⟨g,0,none⟩) (u8v l)
theorem bJ.isS{w:World}{v:Value}{l:List UInt8}(h:bJ w v l):IsS v:=by
 rcases h with⟨rfl,-⟩|⟨g,c,cur,rfl,-⟩
 ·exact⟨_,_,_,rfl⟩
 ·exact⟨_,_,_,rfl⟩
theorem bJ.ag{w w':World}{b2:Nat}{v s0 s1:Value}{l:List UInt8}(h:bJ w v l)(ha:Ag b2 w.heap w'.heap)(h2:Two w b2 s0 s1)(h0:IsS s0)(h1:IsS s1):bJ w' v l:=by
 refine h.imp id ?_;rintro⟨g,c,cur,rfl,a1,a2,a3,a4,a5,a6⟩
 have hne:g≠b2:=by
  rintro rfl;unfold Two at h2;rw[a4]at h2;injection h2 with h2;injection h2 with _ h2;exact absurd h2 (by decide)
 exact⟨g,c,cur,rfl,a1,a2,a3,by rw[ha.2 g (Array.getElem?_eq_some_iff.1 a4).1 hne];exact a4,a5,rd_ag a6 (nums_u8v l) ha h2 h0 h1⟩
theorem slot_own{w:World}{base n c q:Nat}{D:Option Addr}{l:List UInt8}(h:OwnI w base (.slice D n c) n (u8v l))(hn:0<n)(hq:q≤n):∃ g,D=some ⟨g,0,none⟩∧n≤c∧base≤g∧n=l.length∧bJ w (.slice D q c) (l.take q):=by
 have hl:l.length=n:=by have:=h.1.1;rw[aC]at this;omega
 obtain⟨g,cap,cur,hv,hb,hlt,hg,hnc,hm,hs,ht⟩:=oq h.1 hn;injection hv with e1 e2 e3;subst e1 e3;obtain⟨c2,e2,fz2,hg2,hc2⟩:=h.2 g rfl;rw[hg]at hg2;cases hg2;refine⟨g,rfl,hnc,hb,hl.symm,.inr ⟨g,c,cur,?_,by omega,by rw[List.length_take];omega,hm,hg,hc2,?_⟩⟩
 ·rw[List.length_take,Nat.min_eq_left (by omega)]
 ·have:=(own_rd h.1).take q;rwa[show(u8v l).take q=u8v (l.take q) by simp[u8v,List.map_take]]at this
theorem bJ.data{w:World}{v:Value}{l:List UInt8}(h:bJ w v l):∃ A n c,v=.slice A n c∧n=l.length∧n≤c∧c≤9223372036854775807∧Rd w A (u8v l)∧(0<c∨A=none)∧(∀B:Nat→Prop,(∀g,v.ownBlock=some g→B g)→ArgOk B v)∧∀ g,v.ownBlock=some g→∃ c e fz,w.heap[g]? = some (.cells c e fz)∧∀ u∈c,∃k n,u=.int k n:=by
 rcases h with⟨rfl,rfl⟩|⟨g,c,cur,rfl,a1,a2,a3,a4,a5,a6⟩
 ·exact⟨none,0,0,rfl,rfl,Nat.le_refl _,by omega,Rd.nil _ _,.inr rfl,fun B hB=>.inr ⟨none,0,0,rfl,fun ad e=>by cases e⟩,fun g hg=>by cases hg⟩
 ·refine⟨_,_,c,rfl,rfl,a2,by simp only[maxLen]at a3;omega,a6,.inl a1,fun B hB=>.inr ⟨_,_,c,rfl,fun ad e=>by cases e;exact⟨hB g rfl,a1⟩⟩,fun g' hg'=>?_⟩;simp[Value.ownBlock]at hg';subst hg';exact⟨cur,_,_,a4,fun u hu=>a5 u (by simpa using hu)⟩
section
variable {Q:Value→World→Prop}{E:Env}{K Z:Nat→Prop}{W:World}{cs:List Frame}{fn:FuncId}{t:Array Value}{k:List Item}{w0:World}
theorem winsR_nextS{ops:Array Oper}{i d:Nat}{rest:List Nat}{o:Oper}{x y:Operand}{s0 s1:Value}{a b:List UInt8}(hl:LawOk E K W)(hKZ:∀ x,K x→¬ Z x)
 (ho:ops[i]? = some o) (hc:jB o 8 d x y) (hxo:Co.OkX E x) (hyo:Co.OkX E y) (hx:Act.eval ⟨t,[]⟩ x=s0) (hy:Act.eval ⟨t,[]⟩ y=s1) (sa:bJ w0 s0 a) (sb:bJ w0 s1 b)
 (hk:∀ kk:Int,kY a b kk→WinsR Tryz.prog Q E K W Z cs fn (t.setIfInBounds d (.int .i64 kk)) (.inRegion ops rest::k) .run w0):WinsR Tryz.prog Q E K W Z cs fn t (.inRegion ops (i::rest)::k) .run w0:=by
 obtain⟨A,n,c,rfl,a1,a2,a3,a4,a5,a6,a7⟩:=sa.data;obtain⟨C,m,q,rfl,b1,b2,b3,b4,b5,b6,b7⟩:=sb.data;refine winsR_next (x:=x) (y:=y) hl hKZ ho (fun t'=>by simp[Region.wanted,hc.2.1]) hxo hyo hc.2.2.1 hc.2.2.2 hx hy a1 b1 a2 b2 a3 b3 a4 b4 (fun g=>(Value.slice A n c).ownBlock=some g∨(Value.slice C m q).ownBlock=some g) (a6 _ fun g h=>.inl h) (b6 _ fun g h=>.inr h) a5 b5 (fun g h=>h.elim (a7 g) (b7 g)) (fun na nb=>?_) fun kk l hs=>?_
 ·rw[hc.1];exact hk 0 (.inl ⟨na,nb,rfl⟩)
 ·rw[hc.1];exact hk _ (.inr ⟨kk,l,hs,rfl⟩)
theorem winsR_chooseS{ops:Array Oper}{i d:Nat}{rest:List Nat}{o:Oper}{x y:Operand}{s0 s1:Value}{a b:List UInt8}(hl:LawOk E K W)(hKZ:∀ x,K x→¬ Z x)
 (ho:ops[i]? = some o) (hc:jB o 10 d x y) (hxo:Co.OkX E x) (hyo:Co.OkX E y) (hx:Act.eval ⟨t,[]⟩ x=s0) (hy:Act.eval ⟨t,[]⟩ y=s1) (sa:bJ w0 s0 a) (sb:bJ w0 s1 b)
 (hno:¬ Whole a→¬ Whole b→WinsR Tryz.prog Q E K W Z cs fn (t.setIfInBounds d (.tuple #[.int .i64 0,.int .i64 0,.slice none 0 0,.iface 38 (.int .i64 4)])) (.inRegion ops rest::k) .run w0)
 (hyes:∀ (kk:Int) (l:List UInt8) (D:Option Addr) (q:Nat) (u:World),Sel a b kk l→Below w0.heap.size w0 u→OwnI u w0.heap.size (.slice D (longS l) q) (longS l) (u8v (bodyS l)) →
  WinsR Tryz.prog Q E K W Z cs fn (t.setIfInBounds d (.tuple #[.int .i64 kk,.int .i64 (seqS l),.slice D (longS l) q,.nilIface])) (.inRegion ops rest::k) .run u):WinsR Tryz.prog Q E K W Z cs fn t (.inRegion ops (i::rest)::k) .run w0:=by
 obtain⟨A,n,c,rfl,a1,a2,a3,a4,a5,a6,a7⟩:=sa.data;obtain⟨C,m,q,rfl,b1,b2,b3,b4,b5,b6,b7⟩:=sb.data;refine winsR_choose (x:=x) (y:=y) hl hKZ ho (fun t'=>by simp[Region.wanted,hc.2.1]) hxo hyo hc.2.2.1 hc.2.2.2 hx hy a1 b1 a2 b2 a3 b3 a4 b4 (fun g=>(Value.slice A n c).ownBlock=some g∨(Value.slice C m q).ownBlock=some g) (a6 _ fun g h=>.inl h) (b6 _ fun g h=>.inr h) a5 b5 (fun g h=>h.elim (a7 g) (b7 g)) (fun na nb=>?_) fun kk l D q' u h1 h2 h3=>?_
 ·rw[hc.1];exact hno na nb
 ·rw[hc.1];exact hyes kk l D q' u h1 h2 h3
end
structure Mem(A:Option Addr)(L cp:Nat)(ls:List (List E3))(C:Option Addr)(xs:List Int)(b2:Nat)(Ak:Option Addr)(nk ck:Nat)(kls:List (List E3))(s0 s1:Value)(a b:List UInt8)(w:World):Prop where
 rb:RdB w (.slice A L cp) ls
 ao:ls=[]∨Off b2 A
 rc:Rd w C (LwW.i64v xs)
 two:Two w b2 s0 s1
 rk:RdB w (.slice Ak nk ck) kls
 ko:kls=[]∨Off b2 Ak
 sa:bJ w s0 a
 sb:bJ w s1 b
section
variable {A C Ak A':Option Addr}{L cp b2 nk ck n' c':Nat}{ls kls ls':List (List E3)}{xs:List Int}{s0 s1 s0' s1':Value}{a b a' b':List UInt8}{w w':World}
theorem Mem.ag(h:Mem A L cp ls C xs b2 Ak nk ck kls s0 s1 a b w)(ha:Ag b2 w.heap w'.heap)(h2:Two w' b2 s0' s1')(ha':bJ w' s0' a')(hb':bJ w' s1' b'):Mem A L cp ls C xs b2 Ak nk ck kls s0' s1' a' b' w' :=
 ⟨rdb_ag h.rb ha h.two h.sa.isS h.sb.isS h.ao,h.ao,rd_ag h.rc (nums_i64 xs) ha h.two h.sa.isS h.sb.isS,h2,rdb_ag h.rk ha h.two h.sa.isS h.sb.isS h.ko,h.ko,ha',hb'⟩
theorem Mem.hb(h:Mem A L cp ls C xs b2 Ak nk ck kls s0 s1 a b w)(ha:HB w.heap w'.heap):Mem A L cp ls C xs b2 Ak nk ck kls s0 s1 a b w' :=
 h.ag (.of ha) (by unfold Two;rw[ha.2 b2 (Array.getElem?_eq_some_iff.1 h.two).1];exact h.two) (h.sa.ag (.of ha) h.two h.sa.isS h.sb.isS) (h.sb.ag (.of ha) h.two h.sa.isS h.sb.isS)
theorem Mem.eq(h:Mem A L cp ls C xs b2 Ak nk ck kls s0 s1 a b w)(he:w'.heap=w.heap):Mem A L cp ls C xs b2 Ak nk ck kls s0 s1 a b w':=h.hb (by rw[he];exact HB.refl _)
end
theorem slot_heap{w w':World}{v:Value}{l:List UInt8}(h:bJ w v l)(he:w'.heap=w.heap):bJ w' v l:=by
 refine h.imp id ?_;rintro⟨g,c,cur,rfl,a1,a2,a3,a4,a5,a6⟩;exact⟨g,c,cur,rfl,a1,a2,a3,by rw[he];exact a4,a5,HB.rd (by rw[he];exact HB.refl _) a6⟩
structure At(A:Option Addr)(L cp:Nat)(C:Option Addr)(m cq b2:Nat)(Ak:Option Addr)(nk ck:Nat)(any:Bool)(i:Nat)(t:Array Value):Prop where
 size:t.size=134
 t0:t[0]? = some (.slice A L cp)
 t1:t[1]? = some (.slice C m cq)
 t6:t[6]? = some (ptr b2)
 t7:t[7]? = some (.slice Ak nk ck)
 t8:t[8]? = some (.bool any)
 t9:t[9]? = some (.int .i64 (i:Int))
theorem kat{N:Nat}{S:List Nat}{t t':Array Value}(h:Kp N S (fun i=>t.getD i undef) t'){s:Nat}{v:Value}(hs:s∈S)(hv:t[s]? = some v):t'[s]? = some v:=by rw[h.2 s hs];exact congrArg some (getD_of hv)
section
variable {A C Ak:Option Addr}{L cp b2 nk ck m cq i:Nat}{any:Bool}{t t':Array Value}
theorem At.kp(h:At A L cp C m cq b2 Ak nk ck any i t){S:List Nat}(k:Kp 134 S (fun i=>t.getD i undef) t')(hS:0∈S∧1∈S∧6∈S∧7∈S∧8∈S∧9∈S):At A L cp C m cq b2 Ak nk ck any i t' :=
 ⟨k.1,kat k hS.1 h.t0,kat k hS.2.1 h.t1,kat k hS.2.2.1 h.t6,kat k hS.2.2.2.1 h.t7,kat k hS.2.2.2.2.1 h.t8,kat k hS.2.2.2.2.2 h.t9⟩
theorem At.keep(h:At A L cp C m cq b2 Ak nk ck any i t)(hs:t'.size=134){S:List Nat}(k:∀ s∈S,t'[s]? = t[s]?)(hS:0∈S∧1∈S∧6∈S∧7∈S∧8∈S∧9∈S):At A L cp C m cq b2 Ak nk ck any i t' :=
 ⟨hs,(k 0 hS.1).trans h.t0,(k 1 hS.2.1).trans h.t1,(k 6 hS.2.2.1).trans h.t6,(k 7 hS.2.2.2.1).trans h.t7,(k 8 hS.2.2.2.2.1).trans h.t8,(k 9 hS.2.2.2.2.2).trans h.t9⟩
end
theorem own_rdb{g:Array Obj}{u:World}{v:Value}{ls:List (List E3)}(h:OwnB (hW g) (hW u.heap) g.size v ls)(hb:HB g u.heap):∃ A c,v=.slice A ls.length c∧RdB u (.slice A ls.length c) ls∧∀ a,A=some a→g.size≤a.block:=by
 have hr:RdB (hW u.heap) v ls:=h.rd ⟨rfl,rfl,rfl,hb.1,hb.2⟩;obtain⟨vs,h1,-⟩:=h;have hr2:=hr;obtain⟨A,c,rfl,-⟩:=hr2;refine⟨A,c,rfl,hr,fun a ha=>?_⟩;subst ha;exact(h1.lt a.block rfl).1
end NoteW
