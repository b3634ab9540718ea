/- The pieces of the law TopNotes, each alone. -/
import Derived.Test.YtlaipigilikmbaaGreatDoorMb35
import Derived.Test.YtlaipigilikmbaaGreatDoorMb30
import Derived.Test.YtlaipigilikmbaaGreatDoorMb7
namespace Go.Proofs.YtlaipigilikmbaaGreatDoor
noncomputable section
set_option linter.unusedVariables false
set_option linter.unusedSimpArgs false
namespace NoteW
open RowKit Cl NoteP RecW SlotW SlotP
def bB:Code→Code
 |.block _ c=>c
 |c=>c
def lB:Code→Code
 |.loop c=>c
 |c=>c
def cT:Code→Code
 |.cond _ c _=>c
 |c=>c
def kE:Nat→Code
 |0=>(Tryz.f3.body).getD .skip
 |i+1=>Co.sR (kE i)
def kC(i:Nat):Code:=Co.sL (kE i)
def bodyC:Code:=lB (bB (Co.sR (kC 6)))
def hC(_:Nat):Code:=Co.sL (Co.sL bodyC)
def iE:Nat→Code
 |0=>bB (Co.sL (Co.sR bodyC))
 |i+1=>Co.sR (iE i)
def iC(i:Nat):Code:=Co.sL (iE i)
def nC(_:Nat):Code:=Co.sR (Co.sR bodyC)
def gC(_:Nat):Code:=Co.sL (iC 13)
def xE:Code:=cT (Co.sR (iC 13))
def xC:Nat→Code
 |0=>Co.sL xE
 |_+1=>Co.sL (Co.sR xE)
theorem kE0:kE 0=.seq (kC 0) (kE 1):=by kernel_rfl
theorem kE1:kE 1=.seq (kC 1) (kE 2):=by kernel_rfl
theorem kE2:kE 2=.seq (kC 2) (kE 3):=by kernel_rfl
theorem kE3:kE 3=.seq (kC 3) (kE 4):=by kernel_rfl
theorem kE4:kE 4=.seq (kC 4) (kE 5):=by kernel_rfl
theorem kE5:kE 5=.seq (kC 5) (kE 6):=by kernel_rfl
theorem kE6:kE 6=.seq (kC 6) (kE 7):=by kernel_rfl
theorem kC6:kC 6=.seq (Co.sL (kC 6)) (.block 0 (.loop bodyC)):=by kernel_rfl
theorem bodyCE:bodyC=.seq (.seq (hC 0) (.cond (.tmp 29) .skip (.exit 0))) (.seq (.block 1 (iE 0)) (nC 0)):=by kernel_rfl
theorem iC13:iC 13=.seq (gC 0) (.cond (.tmp 109) xE .skip):=by kernel_rfl
theorem xEE:xE=.seq (xC 0) (.seq (xC 1) (.exit 1)):=by kernel_rfl
theorem iE0:iE 0=.seq (iC 0) (iE 1):=by kernel_rfl
theorem iE1:iE 1=.seq (iC 1) (iE 2):=by kernel_rfl
theorem iE2:iE 2=.seq (iC 2) (iE 3):=by kernel_rfl
theorem iE3:iE 3=.seq (iC 3) (iE 4):=by kernel_rfl
theorem iE4:iE 4=.seq (iC 4) (iE 5):=by kernel_rfl
theorem iE5:iE 5=.seq (iC 5) (iE 6):=by kernel_rfl
theorem iE6:iE 6=.seq (iC 6) (iE 7):=by kernel_rfl
theorem iE7:iE 7=.seq (iC 7) (iE 8):=by kernel_rfl
theorem iE8:iE 8=.seq (iC 8) (iE 9):=by kernel_rfl
theorem iE9:iE 9=.seq (iC 9) (iE 10):=by kernel_rfl
theorem iE10:iE 10=.seq (iC 10) (iE 11):=by kernel_rfl
theorem iE11:iE 11=.seq (iC 11) (iE 12):=by kernel_rfl
theorem iE12:iE 12=.seq (iC 12) (iE 13):=by kernel_rfl
theorem iE13:iE 13=.seq (iC 13) (iE 14):=by kernel_rfl
theorem iE14:iE 14=.seq (iC 14) (iE 15):=by kernel_rfl
theorem iE15:iE 15=.seq (iC 15) (iE 16):=by kernel_rfl
theorem litu(t:Array Value)(h:t.size=134):∃ u:Nat→Value,(fun i=>t.getD i undef)=u∧t=#[u 0,u 1,u 2,u 3,u 4,u 5,u 6,u 7,u 8,u 9,u 10,u 11,u 12,u 13,u 14,u 15,u 16,u 17,u 18,u 19,u 20,u 21,u 22,u 23,u 24,u 25,u 26,u 27,u 28,u 29,u 30,u 31,u 32,u 33,u 34,u 35,u 36,u 37,u 38,u 39,u 40,u 41,u 42,u 43,u 44,u 45,u 46,u 47,u 48,u 49,u 50,u 51,u 52,u 53,u 54,u 55,u 56,u 57,u 58,u 59,u 60,u 61,u 62,u 63,u 64,u 65,u 66,u 67,u 68,u 69,u 70,u 71,u 72,u 73,u 74,u 75,u 76,u 77,u 78,u 79,u 80,u 81,u 82,u 83,u 84,u 85,u 86,u 87,u 88,u 89,u 90,u 91,u 92,u 93,u 94,u 95,u 96,u 97,u 98,u 99,u 100,u 101,u 102,u 103,u 104,u 105,u 106,u 107,u 108,u 109,u 110,u 111,u 112,u 113,u 114,u 115,u 116,u 117,u 118,u 119,u 120,u 121,u 122,u 123,u 124,u 125,u 126,u 127,u 128,u 129,u 130,u 131,u 132,u 133]:=⟨_,rfl,(slots_of 134 t h).trans (by kernel_rfl)⟩
theorem uat{t:Array Value}{u:Nat→Value}(hu:(fun i=>t.getD i undef)=u){i:Nat}{v:Value}(h:t[i]? = some v):u i=v:=by rw[←hu];exact getD_of h
abbrev ptr(b:Nat):Value:=.pointer (some ⟨b,0,none⟩)
theorem wpList_batA{w0 w:World}{ops:Array Oper}{rest:List Oper}{o:Oper}{a:Act}{Q:Exit→Act→World→Prop}{base:Nat}{v ve:Value}{ls:List (List E3)}{es:List E3}{A:Option Addr}{c:Nat}(hgd:o.guard=none)(s x:Operand)
 (ho:o.op=.call {callee:=.builtin .append,args:=#[s,x],argTypes:=#[22,22]})
 (hs:a.eval s=v) (h:OwnB w0 w base v ls) (hx:a.eval x=.slice A 1 c) (hr:Rd w A [ve]) (he:RdE w0 ve es) (hl:ls.length+1≤1000000000) (hbase:base≤w.heap.size)
 (hK:∀ (v':Value) (w':World),OwnB w0 w' base v' (ls++[es])→Below base w w'→wpList Tryz.prog ops Q rest (a.put o.dst v') w'):wpList Tryz.prog ops Q (o::rest) a w:=by
 obtain⟨i,hi,hz,hsz,hby⟩:=info_parts nN;obtain⟨vs,h1,hvl,h3⟩:=h
 have hone:∀ u∈[ve],u.oneCell'=true:=fun u hu=>by
  obtain⟨A2,c2,e2,-⟩:=he;rw[List.mem_singleton]at hu;subst hu;rw[e2];rfl
 refine dH w hgd s x 22 ho base 27 i _ 24 Tryz.underlying22 hi hz hsz hby rfl v ls.length vs hs h1 A 1 c [ve] hx rfl hr hone (by simp only[maxLen];omega) (by omega) hbase ?_;intro v' w5 ho5 hg5;refine hK v' w5 ⟨vs++[ve],by rw[List.length_append];exact ho5,by rw[List.length_append,List.length_append,hvl];rfl,fun j q hj=>?_⟩ (jZ (Below.refl base w) h1 hg5 hbase (Nat.le_refl _));rcases Nat.lt_or_ge j ls.length with hlt|hge
 ·rw[List.getElem?_append_left hlt]at hj;rw[List.getElem?_append_left (by omega)];exact h3 j q hj
 ·rw[List.getElem?_append_right hge]at hj;rw[List.getElem?_append_right (by omega),hvl]
  have hj0:j-ls.length=0:=by
   have:=(List.getElem?_eq_some_iff.1 hj).1;simp at this;omega
  rw[hj0]at hj⊢;simp only[List.getElem?_cons_zero,Option.some.injEq]at hj;subst hj;exact⟨ve,rfl,he⟩
theorem OwnB.allocB{w0 w:World}{base:Nat}{v:Value}{ls:List (List E3)}(h:OwnB w0 w base v ls)(o:Obj):OwnB w0 (w.alloc o) base v ls:=by
 obtain⟨vs,h1,h2⟩:=h;exact⟨vs,h1.alloc o,h2⟩
theorem _root_.Go.Proofs.YtlaipigilikmbaaGreatDoor.Cl.HB.allocB{g:Array Obj}{w w':World}{o:Obj}(h:HB g w.heap)(h2:Below g.size (w.alloc o) w'):HB g w'.heap :=
 ⟨by have h3:=h2.size;have h4:=h.1;simp at h3;omega,fun k hk=>by
  rw[h2.block k hk,Below.heap_alloc w o k (Nat.lt_of_lt_of_le hk h.1)]
  exact h.2 k hk⟩
def R4(w:World)(u:Nat→Value)(t:Array Value)(h:Array Obj):Prop:=Kp 134 [0,1] u t∧HB w.heap h∧w.heap.size<h.size∧t[6]? = some (ptr w.heap.size)∧h[w.heap.size]? = some (.cells #[.slice none 0 0,.slice none 0 0] 26 (0,0))
def R10(kls:List (List E3))(w:World)(u:Nat→Value)(t:Array Value)(h:Array Obj):Prop:=Kp 134 [0,1,6,7,8,9] u t∧HB w.heap h∧∃ v,t[10]? = some v∧OwnB (hW w.heap) (hW h) w.heap.size v kls
def R11(g:Array Obj)(kls:List (List E3))(u:Nat→Value)(t:Array Value)(h:Array Obj):Prop:=Kp 134 [0,1,6,7,8,9] u t∧HB g h∧∃ v,t[10]? = some v∧OwnB (hW g) (hW h) g.size v kls
def R12(want:List (List E3))(w:World)(u:Nat→Value)(t:Array Value)(h:Array Obj):Prop:=Kp 134 [0,1,6,7,8,9,10] u t∧HB w.heap h∧((t[11]? = some (.slice none 0 0)∧∃ x,t[12]? = some (.iface 38 (.int .i64 x)))∨((∀es∈want,aN es=0)∧t[12]? = some .nilIface∧∃ B q,t[11]? = some (.slice B (bytesOf want).length q)∧Rd (hW h) B (u8v (bytesOf want))))
def R15(i:Nat)(l:List UInt8)(w:World)(u:Nat→Value)(t:Array Value)(h:Array Obj):Prop:=Kp 134 [0,1,6,7,8,9,10] u t∧HB w.heap h∧t[12]? = some .nilIface∧∃ D c,t[13]? = some (.slice D (16+l.length) c)∧16+l.length≤c∧OwnI (hW h) w.heap.size (.slice D (16+l.length) c) (16+l.length) (u8v (slotB (i+1) l))
def R22(n:Nat)(w:World)(u:Nat→Value)(t:Array Value)(h:Array Obj):Prop:=Kp 134 [0,1,6,7,8,9,10,13,14] u t∧h=w.heap∧∃ q,q≤n∧t[15]? = some (.int .i64 ((q:Nat):Int))
def R24(b2:Nat)(s0 s1:Value)(w:World)(u:Nat→Value)(t:Array Value)(h:Array Obj):Prop:=Kp 134 [0,1,6,7,8,9,10,13,15] u t∧h.size=w.heap.size∧(∀j,j≠b2→h[j]? = w.heap[j]?)∧h[b2]? = some (.cells #[s0,s1] 26 (0,0))
def R34(w:World)(u:Nat→Value)(t:Array Value)(h:Array Obj):Prop:=Kp 134 [0,1,6,7,8,9,12,18,21] u t∧HB w.heap h∧t[22]? = some (.bool true)
def R25(v7:Value)(w:World)(u:Nat→Value)(t:Array Value)(h:Array Obj):Prop:=Kp 134 [0,1,6,9] u t∧h=w.heap∧t[7]? = some v7∧t[8]? = some (.bool true)
attribute [local irreducible] slotB bytesOf Rec.flat
set_option maxRecDepth 20000 in
set_option maxHeartbeats 2000000 in
theorem p2(w:World)  (t:Array Value)(ht:t.size=134)(q5:t[5]? = some (.bool true)):(kC 2).wp Tryz.prog (fun e a w'=>e=.normal∧RK 134 [0,1] w (fun i=>t.getD i undef) a.tmps w'.heap) ⟨t,[]⟩ w:=by
 obtain⟨u,hu,e⟩:=litu t ht;rw[hu];rw[uat hu q5]at e;clear hu ht q5;subst e;simp only[kC,kE,Tryz.f3,Co.sL,Co.sR,Option.getD]
 go_wp2_with fail
 exact⟨⟨rfl,by intro s hs;simp only[List.mem_cons,List.not_mem_nil,or_false]at hs;rcases hs with rfl|rfl<;>rfl⟩,rfl⟩
set_option maxRecDepth 20000 in
set_option maxHeartbeats 2000000 in
theorem p4(w:World)  (t:Array Value)(ht:t.size=134)  : (kC 3).wp Tryz.prog (fun e a w'=>e=.normal∧R4 w (fun i=>t.getD i undef) a.tmps w'.heap) ⟨t,[]⟩ w:=by
 obtain⟨u,hu,e⟩:=litu t ht;rw[hu];clear hu ht;subst e;simp only[kC,kE,Tryz.f3,Co.sL,Co.sR,Option.getD]
 go_wp2_with fail
 exact⟨⟨rfl,by intro s hs;simp only[List.mem_cons,List.not_mem_nil,or_false]at hs;rcases hs with rfl|rfl<;>rfl⟩,.of ((Below.refl _ _).alloc (Nat.le_refl _) _),by simp,rfl,heap_alloc_new w _⟩
set_option maxRecDepth 20000 in
set_option maxHeartbeats 2000000 in
theorem p8(w:World)(A:Option Addr)(L cp i:Nat)(t:Array Value)(ht:t.size=134)(q0:t[0]? = some (.slice A L cp))(q9:t[9]? = some (.int .i64 (i:Int))):(hC 0).wp Tryz.prog (fun e a w'=>e=.normal∧RV 134 [0,1,6,7,8,9] 29 (.bool (decide ((i:Int)<(L:Int)))) w (fun i=>t.getD i undef) a.tmps w'.heap) ⟨t,[]⟩ w:=by
 obtain⟨u,hu,e⟩:=litu t ht;rw[hu];rw[uat hu q0,uat hu q9]at e;have HK0:=hide (uat hu q0);have HK9:=hide (uat hu q9);clear hu ht q0 q9;subst e;simp only[hC,bodyC,kC,kE,bB,lB,Tryz.f3,Co.sL,Co.sR,Option.getD]
 go_wp2_with fail
 exact⟨⟨rfl,by intro s hs;simp only[List.mem_cons,List.not_mem_nil,or_false]at hs;rcases hs with rfl|rfl|rfl|rfl|rfl|rfl<;>first|rfl|exact congrArg some HK0.out.symm|exact congrArg some HK9.out.symm⟩,rfl,rfl⟩
set_option maxRecDepth 20000 in
set_option maxHeartbeats 2000000 in
theorem p10(w:World)(Ak:Option Addr)(nk ck:Nat)(kls:List (List E3))(hr:RdB w (.slice Ak nk ck) kls)(hl:kls.length≤1000000)(t:Array Value)(ht:t.size=134)(q7:t[7]? = some (.slice Ak nk ck)):(iC 0).wp Tryz.prog (fun e a w'=>e=.normal∧R10 kls w (fun i=>t.getD i undef) a.tmps w'.heap) ⟨t,[]⟩ w:=by
 obtain⟨u,hu,e⟩:=litu t ht;rw[hu];rw[uat hu q7]at e;have HK7:=hide (uat hu q7);clear hu ht q7;subst e;simp only[iC,iE,bodyC,kC,kE,bB,lB,Tryz.f3,Co.sL,Co.sR,Option.getD];have HR:=hide hr;have hb1:Below w.heap.size w (w.alloc (.cells #[] 22)):=(Below.refl _ _).alloc (Nat.le_refl _) _;have hb1':Below w.heap.size w (w.alloc (.cells #[] 27)):=(Below.refl _ _).alloc (Nat.le_refl _) _;clear hr
 go_wp2_with (first
  |(at_builtin
    go_loud (refine wpList_bats (w0:=w) (ls:=[]) (ls2:=kls) rfl (.tmp 32) (.tmp 33) rfl rfl (OwnB.empty w w) rfl HR.out hb1' (by simp only[List.length_nil];omega) (by simp) ?_)
    intro v' w5 ho5 hf5;have HO:=hide ho5;have HB5:=hide (hb1'.trans hf5.low)
    clear ho5 hf5)
  |fail)
 rw[List.nil_append]at HO;exact⟨⟨rfl,by intro s hs;simp only[List.mem_cons,List.not_mem_nil,or_false]at hs;rcases hs with rfl|rfl|rfl|rfl|rfl|rfl<;>first|rfl|exact congrArg some HK7.out.symm⟩,.of HB5.out,_,rfl,HO.out⟩
set_option maxRecDepth 20000 in
set_option maxHeartbeats 2000000 in
theorem p11(w:World)(g:Array Obj)(A:Option Addr)(L cp i:Nat)(v10:Value)(A2:Option Addr)(n2 c2:Nat)(kls:List (List E3))(es:List E3)(b off:Nat)(hA:A=some ⟨b,off,none⟩)(hc:w.cell? ⟨b,off+i,none⟩=some (.slice A2 n2 c2))(he:RdE (hW g) (.slice A2 n2 c2) es)(hi:i<L)(hb:HB g w.heap)(ho:OwnB (hW g) w g.size v10 kls)(hl:kls.length≤1000000)(t:Array Value)(ht:t.size=134)(q0:t[0]? = some (.slice A L cp))(q9:t[9]? = some (.int .i64 (i:Int)))(q10:t[10]? = some (v10)):(iC 1).wp Tryz.prog (fun e a w'=>e=.normal∧R11 g (kls++[es]) (fun i=>t.getD i undef) a.tmps w'.heap) ⟨t,[]⟩ w:=by
 obtain⟨u,hu,e⟩:=litu t ht;rw[hu];rw[uat hu q0,uat hu q9,uat hu q10]at e;have HK0:=hide (uat hu q0);have HK9:=hide (uat hu q9);clear hu ht q0 q9 q10;subst e;simp only[iC,iE,bodyC,kC,kE,bB,lB,Tryz.f3,Co.sL,Co.sR,Option.getD];subst hA;have HE:=hide he;have HB0:=hide hb;have HO:=hide ho
 have e1:decide ((i:Int)<(L:Int))=true:=by simp;omega
 have q0:(0:Int)≤(i:Int):=by omega
 have hiL:(i:Int)<(L:Int):=by omega
 clear he hb ho
 go_wp2_with (first
  |(at_builtin
    go_loud (refine wpList_batA (w0:=hW g) (ls:=kls) (es:=es) (ve:=.slice A2 n2 c2) rfl (.tmp 35) (.tmp 40) rfl rfl (OwnB.allocB HO.out _) rfl (Rd.one _ _ _) HE.out (by omega) (by have:=HB0.out.1;simp;omega) ?_)
    intro v' w5 ho5 hb5;have HO5:=hide ho5;have HB5:=hide hb5
    clear ho5 hb5)
  |fail)
 exact⟨⟨rfl,by intro s hs;simp only[List.mem_cons,List.not_mem_nil,or_false]at hs;rcases hs with rfl|rfl|rfl|rfl|rfl|rfl<;>first|rfl|exact congrArg some HK0.out.symm|exact congrArg some HK9.out.symm⟩,HB0.out.allocB (HB5.out),_,rfl,HO5.out⟩
set_option maxRecDepth 20000 in
set_option maxHeartbeats 2000000 in
theorem p12(w:World)(A:Option Addr)(n c:Nat)(want:List (List E3))(hr:RdB w (.slice A n c) want)(hl:want.length≤1000000)(hsz:∀ i,(∀es∈want.take i,aN es=0)→(Rec.flat (natL (want.take i))).length≤100000000)(t:Array Value)(ht:t.size=134)(q10:t[10]? = some (.slice A n c)):(iC 2).wp Tryz.prog (fun e a w'=>e=.normal∧R12 want w (fun i=>t.getD i undef) a.tmps w'.heap) ⟨t,[]⟩ w:=by
 obtain⟨u,hu,e⟩:=litu t ht;rw[hu];rw[uat hu q10]at e;have HK10:=hide (uat hu q10);clear hu ht q10;subst e;simp only[iC,iE,bodyC,kC,kE,bB,lB,Tryz.f3,Co.sL,Co.sR,Option.getD];have HR:=hide hr;have HS:=hide hsz;clear hr hsz
 go_wp2_with fail
 refine(write_any _ want w HR.out (by omega) HS.out).mono ?_;rintro e w2 ⟨hb2,⟨hok,B,q,rfl,ho⟩|⟨pre,es,hp,hpe,hf,rfl⟩⟩
 ·have eB:Rec.flat (natL want)=bytesOf want:=by unfold bytesOf;rfl
  rw[eB]at ho⊢;have HO:=hide (own_rd ho);have HB2:=hide hb2;have HOK:=hide hok;clear ho hb2 hok HR HS eB
  go_wp2_with fail
  exact⟨⟨rfl,by intro s hs;simp only[List.mem_cons,List.not_mem_nil,or_false]at hs;rcases hs with rfl|rfl|rfl|rfl|rfl|rfl|rfl<;>first|rfl|exact congrArg some HK10.out.symm⟩,.of HB2.out,.inr ⟨HOK.out,rfl,B,q,rfl,HO.out⟩⟩
 ·have HB2:=hide hb2;clear hb2 HR HS hp hpe hf;unfold errR;generalize aN es=fe
  go_wp2_with fail
  exact⟨⟨rfl,by intro s hs;simp only[List.mem_cons,List.not_mem_nil,or_false]at hs;rcases hs with rfl|rfl|rfl|rfl|rfl|rfl|rfl<;>first|rfl|exact congrArg some HK10.out.symm⟩,.of HB2.out,.inl ⟨rfl,fe,rfl⟩⟩
set_option maxRecDepth 20000 in
set_option maxHeartbeats 2000000 in
theorem p13e(w:World)(x:Int)(t:Array Value)(ht:t.size=134)(q11:t[11]? = some (.slice none 0 0))(q12:t[12]? = some (.iface 38 (.int .i64 x))):(iC 3).wp Tryz.prog (fun e a w'=>e=.ret∧RX 134 4 (.bool true) a.tmps w'.heap) ⟨t,[]⟩ w:=by
 obtain⟨u,hu,e⟩:=litu t ht;rw[uat hu q11,uat hu q12]at e;clear hu ht q11 q12;subst e;simp only[iC,iE,bodyC,kC,kE,bB,lB,Tryz.f3,Co.sL,Co.sR,Option.getD]
 go_wp2_with fail
 exact⟨rfl,rfl⟩
set_option maxRecDepth 20000 in
set_option maxHeartbeats 2000000 in
theorem p13f(w:World)(B:Option Addr)(n q:Nat)(hn:4096<n)(t:Array Value)(ht:t.size=134)(q11:t[11]? = some (.slice B n q))(q12:t[12]? = some (.nilIface)):(iC 3).wp Tryz.prog (fun e a w'=>e=.ret∧RX 134 4 (.bool true) a.tmps w'.heap) ⟨t,[]⟩ w:=by
 obtain⟨u,hu,e⟩:=litu t ht;rw[uat hu q11,uat hu q12]at e;clear hu ht q11 q12;subst e;simp only[iC,iE,bodyC,kC,kE,bB,lB,Tryz.f3,Co.sL,Co.sR,Option.getD]
 have e1:decide ((n:Int)>4096)=true:=by simp;omega
 have e2:(4096:Int)<(n:Int):=by omega
 go_wp2_with fail
 exact⟨rfl,rfl⟩
set_option maxRecDepth 20000 in
set_option maxHeartbeats 2000000 in
theorem p13n(w:World)(B:Option Addr)(n q:Nat)(hn:n≤4096)(t:Array Value)(ht:t.size=134)(q11:t[11]? = some (.slice B n q))(q12:t[12]? = some (.nilIface)):(iC 3).wp Tryz.prog (fun e a w'=>e=.normal∧RK 134 [0,1,6,7,8,9,10,11] w (fun i=>t.getD i undef) a.tmps w'.heap) ⟨t,[]⟩ w:=by
 obtain⟨u,hu,e⟩:=litu t ht;rw[hu];rw[uat hu q11,uat hu q12]at e;have HK11:=hide (uat hu q11);clear hu ht q11 q12;subst e;simp only[iC,iE,bodyC,kC,kE,bB,lB,Tryz.f3,Co.sL,Co.sR,Option.getD]
 have e1:decide ((n:Int)>4096)=false:=by simp;omega
 have e2:¬ (4096:Int)<(n:Int):=by omega
 go_wp2_with fail
 exact⟨⟨rfl,by intro s hs;simp only[List.mem_cons,List.not_mem_nil,or_false]at hs;rcases hs with rfl|rfl|rfl|rfl|rfl|rfl|rfl|rfl<;>first|rfl|exact congrArg some HK11.out.symm⟩,rfl⟩
set_option maxRecDepth 20000 in
set_option maxHeartbeats 2000000 in
theorem p15(w:World)(i:Nat)(B:Option Addr)(q:Nat)(l:List UInt8)(hi:i<4611686018427387904)(hl:l.length≤4096)(hr:Rd w B (u8v l))(t:Array Value)(ht:t.size=134)(q9:t[9]? = some (.int .i64 (i:Int)))(q11:t[11]? = some (.slice B l.length q)):(iC 4).wp Tryz.prog (fun e a w'=>e=.normal∧R15 i l w (fun i=>t.getD i undef) a.tmps w'.heap) ⟨t,[]⟩ w:=by
 obtain⟨u,hu,e⟩:=litu t ht;rw[hu];rw[uat hu q9,uat hu q11]at e;have HK9:=hide (uat hu q9);clear hu ht q9 q11;subst e;simp only[iC,iE,bodyC,kC,kE,bB,lB,Tryz.f3,Co.sL,Co.sR,Option.getD]
 have e1:IntKind.i64.wrap ((i:Int)+1)=(i:Int)+1:=by rw[IntKind.wrap_i64];omega
 have HR:=hide hr;clear hr;obtain⟨n,hn⟩:∃ n,n=l.length:=⟨_,rfl⟩;have HN:=hide hn;rw[←hn]at hl⊢;clear hn
 go_wp2_with fail
 refine(put_ok ((i:Int)+1) B l n q w HN.out (by omega) (by omega) hl HR.out).mono ?_;rw[show((i:Int)+1).toNat=i+1 by omega];rintro e w2 ⟨D,c,rfl,hc,ho,hb⟩;have HO:=hide ho;have HB2:=hide hb;clear ho hb HR
 go_wp2_with fail
 refine⟨⟨rfl,by intro s hs;simp only[List.mem_cons,List.not_mem_nil,or_false]at hs;rcases hs with rfl|rfl|rfl|rfl|rfl|rfl|rfl<;>first|rfl|exact congrArg some HK9.out.symm⟩,.of HB2.out,rfl,D,c,?_⟩;rw[←HN.out];exact⟨rfl,hc,HO.out⟩
set_option maxRecDepth 20000 in
set_option maxHeartbeats 2000000 in
theorem p16(w:World)  (t:Array Value)(ht:t.size=134)(q12:t[12]? = some (.nilIface)):(iC 5).wp Tryz.prog (fun e a w'=>e=.normal∧RK 134 [0,1,6,7,8,9,10,13] w (fun i=>t.getD i undef) a.tmps w'.heap) ⟨t,[]⟩ w:=by
 obtain⟨u,hu,e⟩:=litu t ht;rw[hu];rw[uat hu q12]at e;clear hu ht q12;subst e;simp only[iC,iE,bodyC,kC,kE,bB,lB,Tryz.f3,Co.sL,Co.sR,Option.getD]
 go_wp2_with fail
 exact⟨⟨rfl,by intro s hs;simp only[List.mem_cons,List.not_mem_nil,or_false]at hs;rcases hs with rfl|rfl|rfl|rfl|rfl|rfl|rfl|rfl<;>rfl⟩,rfl⟩
set_option maxRecDepth 20000 in
set_option maxHeartbeats 2000000 in
theorem p19(w:World)(k:Int)(hk:k=0∨k=1)(t:Array Value)(ht:t.size=134)(q14:t[14]? = some (.int .i64 k)):(iC 7).wp Tryz.prog (fun e a w'=>e=.normal∧RK 134 [0,1,6,7,8,9,10,13,14] w (fun i=>t.getD i undef) a.tmps w'.heap) ⟨t,[]⟩ w:=by
 obtain⟨u,hu,e⟩:=litu t ht;rw[hu];rw[uat hu q14]at e;have HK14:=hide (uat hu q14);clear hu ht q14;subst e;simp only[iC,iE,bodyC,kC,kE,bB,lB,Tryz.f3,Co.sL,Co.sR,Option.getD];rcases hk with rfl|rfl
 ·go_wp2_with fail
  exact⟨⟨rfl,by intro s hs;simp only[List.mem_cons,List.not_mem_nil,or_false]at hs;rcases hs with rfl|rfl|rfl|rfl|rfl|rfl|rfl|rfl|rfl<;>first|rfl|exact congrArg some HK14.out.symm⟩,rfl⟩
 ·go_wp2_with fail
  exact⟨⟨rfl,by intro s hs;simp only[List.mem_cons,List.not_mem_nil,or_false]at hs;rcases hs with rfl|rfl|rfl|rfl|rfl|rfl|rfl|rfl|rfl<;>first|rfl|exact congrArg some HK14.out.symm⟩,rfl⟩
set_option maxRecDepth 20000 in
set_option maxHeartbeats 2000000 in
theorem p21(w:World)(D:Option Addr)(n c:Nat)(t:Array Value)(ht:t.size=134)(q13:t[13]? = some (.slice D n c)):(iC 8).wp Tryz.prog (fun e a w'=>e=.normal∧RV 134 [0,1,6,7,8,9,10,13,14] 15 (.int .i64 (n:Int)) w (fun i=>t.getD i undef) a.tmps w'.heap) ⟨t,[]⟩ w:=by
 obtain⟨u,hu,e⟩:=litu t ht;rw[hu];rw[uat hu q13]at e;have HK13:=hide (uat hu q13);clear hu ht q13;subst e;simp only[iC,iE,bodyC,kC,kE,bB,lB,Tryz.f3,Co.sL,Co.sR,Option.getD]
 go_wp2_with fail
 exact⟨⟨rfl,by intro s hs;simp only[List.mem_cons,List.not_mem_nil,or_false]at hs;rcases hs with rfl|rfl|rfl|rfl|rfl|rfl|rfl|rfl|rfl<;>first|rfl|exact congrArg some HK13.out.symm⟩,rfl,rfl⟩
set_option maxRecDepth 20000 in
set_option maxHeartbeats 2000000 in
theorem p22(w:World)(i:Nat)(C D:Option Addr)(m cq n c:Nat)(xs:List Int)(hn:n≤100000)(hm:m=xs.length)(hr:Rd w C (LwW.i64v xs))(hx:∀ x∈xs,-9223372036854775808≤x∧x≤9223372036854775807)(t:Array Value)(ht:t.size=134)(q1:t[1]? = some (.slice C m cq))(q9:t[9]? = some (.int .i64 (i:Int)))(q13:t[13]? = some (.slice D n c))(q15:t[15]? = some (.int .i64 (n:Int))):(iC 9).wp Tryz.prog (fun e a w'=>e=.normal∧R22 n w (fun i=>t.getD i undef) a.tmps w'.heap) ⟨t,[]⟩ w:=by
 obtain⟨u,hu,e⟩:=litu t ht;rw[hu];rw[uat hu q1,uat hu q9,uat hu q13,uat hu q15]at e;have HK1:=hide (uat hu q1);have HK9:=hide (uat hu q9);have HK13:=hide (uat hu q13);clear hu ht q1 q9 q13 q15;subst e;simp only[iC,iE,bodyC,kC,kE,bB,lB,Tryz.f3,Co.sL,Co.sR,Option.getD];have HM:=hide hm;clear hm;have HX:=hide hx;have HR:=hide hr;clear hx hr;by_cases hlt:i<m
 ·have e1:decide ((i:Int)<(m:Int))=true:=by simp;omega
  have q0:(0:Int)≤(i:Int):=by omega
  have hiL:(i:Int)<(m:Int):=by omega
  obtain⟨x,hxi⟩:∃ x,xs[i]? = some x:=⟨_,List.getElem?_eq_getElem (by have:=HM.out;omega)⟩;have hxb:=HX.out x (List.mem_of_getElem? hxi)
  obtain⟨b,off,rfl,hc⟩:∃ b off,C=some ⟨b,off,none⟩∧w.cell? ⟨b,off+i,none⟩=some (.int .i64 x):=by
   rcases HR.out with h|⟨b,off,rfl,h⟩
   ·unfold LwW.i64v at h;simp at h;subst h;simp at hxi
   ·exact⟨b,off,rfl,h i _ (by unfold LwW.i64v;rw[List.getElem?_map,hxi];rfl)⟩
  have e2:IntKind.i64.wrap ((n:Int)+1)=(n:Int)+1:=by rw[IntKind.wrap_i64];omega
  have hp:=pickN_lt x (n+1) (by omega);obtain⟨h1,h2⟩:=hxb;clear HR HX hxi
  go_wp2_with fail
  refine(pick_any x (n+1) ((n:Int)+1) (by omega) (by omega) (by omega) h1 h2 w).mono ?_;rintro e w2 ⟨rfl,rfl⟩;generalize pickN x (n+1)=q at hp
  go_wp2_with fail
  exact⟨⟨rfl,by intro s hs;simp only[List.mem_cons,List.not_mem_nil,or_false]at hs;rcases hs with rfl|rfl|rfl|rfl|rfl|rfl|rfl|rfl|rfl<;>first|rfl|exact congrArg some HK1.out.symm|exact congrArg some HK9.out.symm|exact congrArg some HK13.out.symm⟩,rfl,q,by omega,rfl⟩
 ·have e1:decide ((i:Int)<(m:Int))=false:=by simp;omega
  go_wp2_with fail
  exact⟨⟨rfl,by intro s hs;simp only[List.mem_cons,List.not_mem_nil,or_false]at hs;rcases hs with rfl|rfl|rfl|rfl|rfl|rfl|rfl|rfl|rfl<;>first|rfl|exact congrArg some HK1.out.symm|exact congrArg some HK9.out.symm|exact congrArg some HK13.out.symm⟩,rfl,n,Nat.le_refl _,rfl⟩
set_option maxRecDepth 20000 in
set_option maxHeartbeats 2000000 in
theorem p24(w:World)(b2 g n c q:Nat)(k:Int)(s0 s1:Value)(hk:k=0∨k=1)(hq:q≤n)(hn:n≤c)(h16:16≤n)(hb:w.heap[b2]? = some (.cells #[s0,s1] 26 (0,0)))(t:Array Value)(ht:t.size=134)(q6:t[6]? = some (ptr b2))(q13:t[13]? = some (.slice (some ⟨g,0,none⟩) n c))(q14:t[14]? = some (.int .i64 k))(q15:t[15]? = some (.int .i64 (q:Int))):(iC 10).wp Tryz.prog (fun e a w'=>e=.normal∧R24 b2 (if k=0 then .slice (some ⟨g,0,none⟩) q c else s0) (if k=0 then s1 else .slice (some ⟨g,0,none⟩) q c) w (fun i=>t.getD i undef) a.tmps w'.heap) ⟨t,[]⟩ w:=by
 obtain⟨u,hu,e⟩:=litu t ht;rw[hu];rw[uat hu q6,uat hu q13,uat hu q14,uat hu q15]at e;have HK6:=hide (uat hu q6);have HK13:=hide (uat hu q13);have HK15:=hide (uat hu q15);clear hu ht q6 q13 q14 q15;subst e;simp only[iC,iE,bodyC,kC,kE,bB,lB,Tryz.f3,Co.sL,Co.sR,Option.getD];have hB:Bk w b2 26 #[s0,s1]:=hb;have hbl:=hB.lt;have c0:=hB.at_ (i:=0) (u:=s0) rfl;have c1:=hB.at_ (i:=1) (u:=s1) rfl;have f0:=hB.free 0;have f1:=hB.free 1
 have q0:(0:Int)≤(q:Int):=by omega
 have q1:(q:Int)≤(c:Int):=by omega
 have q2:¬ c=0:=by omega
 clear hb;rcases hk with rfl|rfl
 ·go_wp2_with fail
  refine⟨⟨rfl,by intro s hs;simp only[List.mem_cons,List.not_mem_nil,or_false]at hs;rcases hs with rfl|rfl|rfl|rfl|rfl|rfl|rfl|rfl|rfl<;>first|rfl|exact congrArg some HK6.out.symm|exact congrArg some HK13.out.symm|exact congrArg some HK15.out.symm⟩,by simp,fun j hj=>Below.heap_setCell w _ _ j hj,?_⟩;exact hB.put 0 _
 ·go_wp2_with fail
  refine⟨⟨rfl,by intro s hs;simp only[List.mem_cons,List.not_mem_nil,or_false]at hs;rcases hs with rfl|rfl|rfl|rfl|rfl|rfl|rfl|rfl|rfl<;>first|rfl|exact congrArg some HK6.out.symm|exact congrArg some HK13.out.symm|exact congrArg some HK15.out.symm⟩,by simp,fun j hj=>Below.heap_setCell w _ _ j hj,?_⟩;exact hB.put 1 _
set_option maxRecDepth 20000 in
set_option maxHeartbeats 2000000 in
theorem p25y(w:World)(v10:Value)(D:Option Addr)(n c q:Nat)(hq:q=n)(t:Array Value)(ht:t.size=134)(q10:t[10]? = some (v10))(q13:t[13]? = some (.slice D n c))(q15:t[15]? = some (.int .i64 (q:Int))):(iC 11).wp Tryz.prog (fun e a w'=>e=.normal∧R25 v10 w (fun i=>t.getD i undef) a.tmps w'.heap) ⟨t,[]⟩ w:=by
 obtain⟨u,hu,e⟩:=litu t ht;rw[hu];rw[uat hu q10,uat hu q13,uat hu q15]at e;clear hu ht q10 q13 q15;subst e;simp only[iC,iE,bodyC,kC,kE,bB,lB,Tryz.f3,Co.sL,Co.sR,Option.getD];subst hq
 go_wp2_with fail
 exact⟨⟨rfl,by intro s hs;simp only[List.mem_cons,List.not_mem_nil,or_false]at hs;rcases hs with rfl|rfl|rfl|rfl<;>rfl⟩,rfl,rfl,rfl⟩
set_option maxRecDepth 20000 in
set_option maxHeartbeats 2000000 in
theorem p25n(w:World)(D:Option Addr)(n c q:Nat)(hq:q<n)(t:Array Value)(ht:t.size=134)(q13:t[13]? = some (.slice D n c))(q15:t[15]? = some (.int .i64 (q:Int))):(iC 11).wp Tryz.prog (fun e a w'=>e=.normal∧RK 134 [0,1,6,7,8,9] w (fun i=>t.getD i undef) a.tmps w'.heap) ⟨t,[]⟩ w:=by
 obtain⟨u,hu,e⟩:=litu t ht;rw[hu];rw[uat hu q13,uat hu q15]at e;clear hu ht q13 q15;subst e;simp only[iC,iE,bodyC,kC,kE,bB,lB,Tryz.f3,Co.sL,Co.sR,Option.getD]
 have e1:((q:Int)==(n:Int))=false:=by simp;omega
 go_wp2_with fail
 exact⟨⟨rfl,by intro s hs;simp only[List.mem_cons,List.not_mem_nil,or_false]at hs;rcases hs with rfl|rfl|rfl|rfl|rfl|rfl<;>rfl⟩,rfl⟩
set_option maxRecDepth 20000 in
set_option maxHeartbeats 2000000 in
theorem p29(w:World)(b:Bool)(t:Array Value)(ht:t.size=134)(q8:t[8]? = some (.bool b)):(gC 0).wp Tryz.prog (fun e a w'=>e=.normal∧RV 134 [0,1,6,7,8,9,12,18] 109 (.bool (!b)) w (fun i=>t.getD i undef) a.tmps w'.heap) ⟨t,[]⟩ w:=by
 obtain⟨u,hu,e⟩:=litu t ht;rw[hu];rw[uat hu q8]at e;have HK8:=hide (uat hu q8);clear hu ht q8;subst e;simp only[gC,iC,iE,bodyC,kC,kE,bB,lB,Tryz.f3,Co.sL,Co.sR,Option.getD]
 go_wp2_with fail
 exact⟨⟨rfl,by intro s hs;simp only[List.mem_cons,List.not_mem_nil,or_false]at hs;rcases hs with rfl|rfl|rfl|rfl|rfl|rfl|rfl|rfl<;>first|rfl|exact congrArg some HK8.out.symm⟩,rfl,rfl⟩
set_option maxRecDepth 20000 in
set_option maxHeartbeats 2000000 in
theorem p31(w:World)  (t:Array Value)(ht:t.size=134)(q19:t[19]? = some (.bool true)):(xC 1).wp Tryz.prog (fun e a w'=>e=.normal∧RK 134 [0,1,6,7,8,9] w (fun i=>t.getD i undef) a.tmps w'.heap) ⟨t,[]⟩ w:=by
 obtain⟨u,hu,e⟩:=litu t ht;rw[hu];rw[uat hu q19]at e;clear hu ht q19;subst e;simp only[xC,xE,iC,iE,bodyC,kC,kE,bB,lB,cT,Tryz.f3,Co.sL,Co.sR,Option.getD]
 go_wp2_with fail
 exact⟨⟨rfl,by intro s hs;simp only[List.mem_cons,List.not_mem_nil,or_false]at hs;rcases hs with rfl|rfl|rfl|rfl|rfl|rfl<;>rfl⟩,rfl⟩
set_option maxRecDepth 20000 in
set_option maxHeartbeats 2000000 in
theorem p34(w:World)(v0:Value)(Ak:Option Addr)(nk ck:Nat)(kls:List (List E3))(h1:RdB w v0 kls)(h2:RdB w (.slice Ak nk ck) kls)(hl:kls.length≤1000000)(hle:∀ es∈kls,es.length≤1000000000)(t:Array Value)(ht:t.size=134)(q7:t[7]? = some (.slice Ak nk ck))(q20:t[20]? = some (v0)):(iC 15).wp Tryz.prog (fun e a w'=>e=.normal∧R34 w (fun i=>t.getD i undef) a.tmps w'.heap) ⟨t,[]⟩ w:=by
 obtain⟨u,hu,e⟩:=litu t ht;rw[hu];rw[uat hu q7,uat hu q20]at e;have HK7:=hide (uat hu q7);clear hu ht q7 q20;subst e;simp only[iC,iE,bodyC,kC,kE,bB,lB,Tryz.f3,Co.sL,Co.sR,Option.getD];have HS:=hide (batches_same v0 (.slice Ak nk ck) kls w h1 h2 (by omega) hle);clear h1 h2 hle
 go_wp2_with fail
 refine HS.out.mono ?_;rintro e w2 ⟨rfl,d2,hd2⟩;have HB2:Hid (HB w.heap w2.heap):=hide (by rw[hd2];exact HB.refl _);clear hd2 HS
 go_wp2_with fail
 exact⟨⟨rfl,by intro s hs;simp only[List.mem_cons,List.not_mem_nil,or_false]at hs;rcases hs with rfl|rfl|rfl|rfl|rfl|rfl|rfl|rfl|rfl<;>first|rfl|exact congrArg some HK7.out.symm⟩,HB2.out,rfl⟩
set_option maxRecDepth 20000 in
set_option maxHeartbeats 2000000 in
theorem p35(w:World)(B:Option Addr)(n q:Nat)(t:Array Value)(ht:t.size=134)(q12:t[12]? = some (.nilIface))(q18:t[18]? = some (.slice B n q))(q21:t[21]? = some (.int .i64 (n:Int)))(q22:t[22]? = some (.bool true)):(iE 16).wp Tryz.prog (fun e a w'=>e=.normal∧RK 134 [0,1,6,7,8,9] w (fun i=>t.getD i undef) a.tmps w'.heap) ⟨t,[]⟩ w:=by
 obtain⟨u,hu,e⟩:=litu t ht;rw[hu];rw[uat hu q12,uat hu q18,uat hu q21,uat hu q22]at e;clear hu ht q12 q18 q21 q22;subst e;simp only[iE,bodyC,kC,kE,bB,lB,Tryz.f3,Co.sL,Co.sR,Option.getD]
 have e1:((n:Int) != (n:Int))=false:=by simp
 go_wp2_with fail
 exact⟨⟨rfl,by intro s hs;simp only[List.mem_cons,List.not_mem_nil,or_false]at hs;rcases hs with rfl|rfl|rfl|rfl|rfl|rfl<;>rfl⟩,rfl⟩
set_option maxRecDepth 20000 in
set_option maxHeartbeats 2000000 in
theorem p9(w:World)(i:Nat)(hi:i<4611686018427387904)(t:Array Value)(ht:t.size=134)(q9:t[9]? = some (.int .i64 (i:Int))):(nC 0).wp Tryz.prog (fun e a w'=>e=.normal∧RV 134 [0,1,6,7,8] 9 (.int .i64 ((i+1:Nat):Int)) w (fun i=>t.getD i undef) a.tmps w'.heap) ⟨t,[]⟩ w:=by
 obtain⟨u,hu,e⟩:=litu t ht;rw[hu];rw[uat hu q9]at e;clear hu ht q9;subst e;simp only[nC,bodyC,kC,kE,bB,lB,Tryz.f3,Co.sL,Co.sR,Option.getD]
 have e1:IntKind.i64.wrap ((i:Int)+1)=((i+1:Nat):Int):=by rw[IntKind.wrap_i64];omega
 go_wp2_with fail
 exact⟨⟨rfl,by intro s hs;simp only[List.mem_cons,List.not_mem_nil,or_false]at hs;rcases hs with rfl|rfl|rfl|rfl|rfl<;>rfl⟩,rfl,rfl⟩
set_option maxRecDepth 20000 in
set_option maxHeartbeats 2000000 in
theorem p37(w:World)  (t:Array Value)(ht:t.size=134)  : (kE 7).wp Tryz.prog (fun e a w'=>e=.ret∧RX 134 4 (.bool true) a.tmps w'.heap) ⟨t,[]⟩ w:=by
 obtain⟨u,hu,e⟩:=litu t ht;clear hu ht;subst e;simp only[kE,Tryz.f3,Co.sL,Co.sR,Option.getD]
 go_wp2_with fail
 exact⟨rfl,rfl⟩
end NoteW
