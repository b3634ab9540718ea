/- Texts of this seat,put together: SlotOpen,SlotChoose. -/
import Derived.Test.YtlaipigilikmbaaGreatDoorMb31
import Derived.Test.YtlaipigilikmbaaGreatDoorMb13
import Derived.Deep.RegionHeld3
namespace Go.Proofs.YtlaipigilikmbaaGreatDoor
noncomputable section
set_option linter.unusedVariables false
set_option linter.unusedSimpArgs false
namespace SlotW
open RowKit Fram SlotP CrcW Crc
theorem lM{w:World}{b o:Nat}{l:List UInt8}(h:Rd w (some ⟨b,o,none⟩) (u8v l))(i k:Nat):Rd w (some ⟨b,o+i,none⟩) (u8v ((l.drop i).take k)):=by
 rcases h with h|⟨b',o',e,hc⟩
 ·rw[show u8v ((l.drop i).take k)=[] by
   have:l=[]:=by simpa[u8v] using h
   subst this;simp[u8v]]
  exact Rd.nil _ _
 ·injection e with e;injection e with e1 e2;subst e1;subst e2;refine .inr ⟨b,o+i,rfl,fun j u hu=>?_⟩;rw[Nat.add_assoc];refine hc (i+j) u ?_;simp only[u8v,List.getElem?_map,List.getElem?_take,List.getElem?_drop]at hu⊢;split at hu
  ·exact hu
  ·cases hu
attribute [local irreducible] seqS longS bodyS sumS
theorem num_seq(l:List UInt8)(b o k cap:Nat)(w:World)(hk:k=8)(h:8≤l.length)(hr:Rd w (some ⟨b,o,none⟩) (u8v l)) :
 Calls Tryz.prog 42 #[.slice (some ⟨b,o,none⟩) k cap] w fun e w'=>e=.returned (.int .u64 (seqS l))∧w=w':=by
 have:=dC (some ⟨b,o,none⟩) (l.take 8) k cap w (by simp;omega) (by simp;omega) (by simpa using lM hr 0 8);unfold seqS;exact this
theorem num_long(l:List UInt8)(b o k cap:Nat)(w:World)(hk:k=4)(h:12≤l.length)(hr:Rd w (some ⟨b,o,none⟩) (u8v l)) :
 Calls Tryz.prog 42 #[.slice (some ⟨b,o+8,none⟩) k cap] w fun e w'=>e=.returned (.int .u64 (longS l))∧w=w':=by
 have:=dC (some ⟨b,o+8,none⟩) ((l.drop 8).take 4) k cap w (by simp;omega) (by simp;omega) (lM hr 8 4);unfold longS;exact this
theorem num_sum(l:List UInt8)(b o k cap q:Nat)(w:World)(hk:k=4)(hq:q=12+longS l)(h:16+longS l≤l.length)(hr:Rd w (some ⟨b,o,none⟩) (u8v l)) :
 Calls Tryz.prog 42 #[.slice (some ⟨b,o+q,none⟩) k cap] w fun e w'=>e=.returned (.int .u64 (sumS l))∧w=w':=by
 subst hq;have:=dC (some ⟨b,o+(12+longS l),none⟩) ((l.drop (12+longS l)).take 4) k cap w (by simp;omega) (by simp;omega) (lM hr (12+longS l) 4);unfold sumS;exact this
theorem crc_part(l:List UInt8)(b o k cap q:Nat)(w:World)(hq:k=12+longS l)(h:16+longS l≤l.length)(hm:longS l≤4096)(hr:Rd w (some ⟨b,o,none⟩) (u8v l)) :
 Calls Tryz.prog 24 #[.slice (some ⟨b,o,none⟩) k cap] w fun e w'=>e=.returned (.int .u32 (crc (l.take (12+longS l))).toNat)∧w=w':=by
 subst hq;exact crc_any (some ⟨b,o,none⟩) (l.take (12+longS l)) (12+longS l) cap w (by simp;omega) (by omega) (by simpa using lM hr 0 (12+longS l))
def OpenPost(w:World)(l:List UInt8)(e:Ending)(w':World):Prop :=
 Below w.heap.size w w'∧((¬Whole l∧e=.returned (.pointer none)) ∨
  (Whole l∧∃ (g:Nat) (B:Option Addr) (c:Nat),e=.returned (.pointer (some ⟨g,0,none⟩))∧w.heap.size≤g∧Bk w' g 73 #[.int .i64 (seqS l),.slice B (longS l) c]∧OwnI w' w.heap.size (.slice B (longS l) c) (longS l) (u8v (bodyS l))∧longS l≤c))
set_option maxRecDepth 100000 in
set_option maxHeartbeats 2000000 in
theorem open_any(A:Option Addr)(l:List UInt8)(n c:Nat)(w:World)(hn:n=l.length)(hnc:n≤c)(hcm:c≤9223372036854775807)(hr:Rd w A (u8v l)) :
 Calls Tryz.prog 26 #[.slice A n c] w (OpenPost w l):=by
 have HN:=hide hn;by_cases h16:n<16
 ·have HW:Hid (¬Whole l):=hide fun h=>by have:=h.1;omega
  clear hn
  go_enter Tryz.func26,Tryz.ntmps26
  go_wp2
  go_ret
  exact⟨Below.refl _ _,.inl ⟨HW.out,rfl⟩⟩
 obtain⟨b,o,rfl,hbw,-⟩:=hr.form (by rw[aC];omega)
 have hl16:16≤l.length:=by omega
 have hsl:=seqS_lt l;have hll:=longS_lt l
 have y1:¬ c=8:=by omega
 have y2:¬ c=12:=by omega
 have z1:(8:Int)≤(c:Int):=by omega
 have z2:(12:Int)≤(c:Int):=by omega
 have HL16:=hide hl16;have HN2:=hide hn;obtain⟨L,hL⟩:∃ L,L=longS l:=⟨_,rfl⟩;obtain⟨sq,hsq⟩:∃ sq:Int,sq=(seqS l:Int):=⟨_,rfl⟩;have HLL:=hide hL;have HSQ:=hide hsq
 have hsl0:0≤sq:=by omega
 have hsl1:sq≤18446744073709551615:=by omega
 have hll:L<4294967296:=by omega
 clear hn hl16 hsl hL hsq
 have xL:IntKind.i64.wrap (L:Int)=(L:Int):=by rw[IntKind.wrap_i64];omega
 go_enter Tryz.func26,Tryz.ntmps26
 go_wp2_with fail
 go_region_with (first
  |(go_at_call 42
    with_reducible refine(num_seq l b o _ _ _ rfl (by have:=HL16.out;omega) ?_).mono ?_
    ·first|exact hr.drew|exact hr
    rintro e w' ⟨rfl,rfl⟩
    rw[←HSQ.out])
  |(go_at_call 42
    with_reducible refine(num_long l b o _ _ _ rfl (by have:=HL16.out;omega) ?_).mono ?_
    ·first|exact hr.drew|exact hr
    rintro e w' ⟨rfl,rfl⟩
    rw[←HLL.out]))
 by_cases hs:sq≤4611686018427387904
 rotate_left
 ·have HW:Hid (¬Whole l):=hide fun h=>by have:=h.2.1;have:=HSQ.out;omega
  have hs':4611686018427387904<sq:=by omega
  clear hs
  go_wp2_with fail
  go_ret
  exact⟨(Below.refl _ _).drew,.inl ⟨HW.out,rfl⟩⟩
 by_cases hg:L≤4096
 rotate_left
 ·have HW:Hid (¬Whole l):=hide fun h=>by have:=h.2.2.1;have:=HLL.out;omega
  have hs':(4096:Int)<(L:Int):=by omega
  clear hg
  go_wp2_with fail
  go_ret
  exact⟨(Below.refl _ _).drew,.inl ⟨HW.out,rfl⟩⟩
 have hg':(L:Int)≤4096:=by omega
 by_cases hk:16+L≤n
 rotate_left
 ·have HW:Hid (¬Whole l):=hide fun h=>by have:=h.2.2.2.1;have:=HLL.out;have:=HN.out;omega
  have hs':(n:Int)<16+(L:Int):=by omega
  clear hk
  go_wp2_with fail
  go_ret
  exact⟨(Below.refl _ _).drew,.inl ⟨HW.out,rfl⟩⟩
 have hk':16+(L:Int)≤(n:Int):=by omega
 have x1:(12+(L:Int)).toNat=12+L:=by omega
 have x2:(12+(L:Int)+4).toNat=12+L+4:=by omega
 have x3:12+(L:Int)≤(c:Int):=by omega
 have x4:12+(L:Int)+4≤(c:Int):=by omega
 have x5:¬ c=12+L:=by omega
 obtain⟨C,hC⟩:∃ C,C=(crc (l.take (12+longS l))).toNat:=⟨_,rfl⟩
 have hCl:C<4294967296:=by have:=(crc (l.take (12+longS l))).isLt;omega
 obtain⟨S,hS⟩:∃ S,S=sumS l:=⟨_,rfl⟩;have HC:=hide hC;have HS:=hide hS
 have xC:IntKind.u64.wrap (C:Int)=(C:Int):=by rw[IntKind.wrap_u64];omega
 have x6:12+L+4-(12+L)=4:=by omega
 have x7:IntKind.i64.wrap (12+(L:Int)+4)=12+(L:Int)+4:=by rw[IntKind.wrap_i64];omega
 have x8:(0:Int)≤12+(L:Int):=by omega
 have x9:12+(L:Int)≤12+(L:Int)+4:=by omega
 clear hC hS
 go_wp2_with fail
 go_region_with (first
  |(go_at_call 24
    with_reducible refine(crc_part l b o _ _ 0 _ (by have:=HLL.out;omega) (by have:=HLL.out;have:=HN.out;omega) (by have:=HLL.out;omega) ?_).mono ?_
    ·first|exact hr.drew|exact hr
    rintro e w' ⟨rfl,rfl⟩
    rw[←HC.out])
  |(go_at_call 42
    with_reducible refine(num_sum l b o _ _ _ _ (by first|rfl|omega) (by have:=HLL.out;omega) (by have:=HLL.out;have:=HN.out;omega) ?_).mono ?_
    ·first|exact hr.drew|exact hr
    rintro e w' ⟨rfl,rfl⟩
    rw[←HS.out]))
 by_cases hcs:C=S
 rotate_left
 ·have HW:Hid (¬Whole l):=hide fun h=>hcs (by rw[HC.out,HS.out];exact h.2.2.2.2)
  have hcs':((C:Int) != (S:Int))=true:=by simp;omega
  clear hcs
  go_wp2_with fail
  go_ret
  exact⟨(Below.refl _ _).drew.drew,.inl ⟨HW.out,rfl⟩⟩
 have HW:Hid (Whole l):=hide ⟨HL16.out,by have:=HSQ.out;omega,by rw[←HLL.out];exact hg,by rw[←HLL.out,←HN.out];exact hk,by rw[←HC.out,←HS.out];exact hcs⟩;have HBL:Hid (L=(bodyS l).length):=hide (by rw[ni (by rw[←HLL.out,←HN.out];exact hk)];exact HLL.out)
 have hrb:Rd w (some ⟨b,o+12,none⟩) (u8v (bodyS l)):=by unfold bodyS;exact lM hr 12 _
 have hcs':((C:Int) != (S:Int))=false:=by simp;omega
 have xs:IntKind.i64.wrap sq=sq:=by rw[IntKind.wrap_i64];omega
 have x10:(12:Int)≤12+(L:Int):=by omega
 have x11:12+L-12=L:=by omega
 clear hcs
 go_wp2_with (first
  |(at_builtin
    refine gW _ rfl _ _ rfl w.heap.size (.slice none 0 0) 0 [] rfl ⟨by exact World.ownsRow_nil _ _ _ _,IRow.nil _⟩ (some ⟨b,o+12,none⟩) L (c-12) (u8v (bodyS l)) rfl (by rw[aC,←HBL.out]) (by exact hrb.drewN 2) (nums_u8v _) ?_ ?_ ?_
    ·omega
    ·exact Nat.le_refl _
    intro v' w4 hown4 hg4;have hb4:=below_of_grown (B:=w.heap.size) hg4 (Nat.le_refl _) (by intro k hk;simp[Value.ownBlock]at hk);have hs4:=hg4.size;simp only[Nat.zero_add,List.nil_append]at hown4
    obtain⟨B,c',rfl,hc'⟩:=hown4.form))
 go_ret
 have hb5:Below w.heap.size w w4:=((Below.refl w.heap.size w).drew.drew).trans hb4;refine⟨hb5.alloc hb5.size _,.inr ⟨HW.out,_,B,c',rfl,hb5.size,?_,?_,?_⟩⟩
 ·rw[←HSQ.out,←HLL.out];exact Bk.new _ _ _
 ·rw[←HLL.out];exact hown4.alloc _
 ·rw[←HLL.out];exact hc'
end SlotW
namespace SlotW
open RowKit Fram SlotP CrcW Crc
def Sel(a b:List UInt8)(k:Int)(l:List UInt8):Prop:=(k=0∧l=a∧Whole a∧(Whole b→seqS b≤seqS a))∨(k=1∧l=b∧Whole b∧(Whole a→seqS a<seqS b))
def ChoosePost(w:World)(a b:List UInt8)(e:Ending)(w':World):Prop :=
 Below w.heap.size w w'∧((¬Whole a∧¬ Whole b∧e=.returned (.tuple #[.int .i64 0,.int .i64 0,.slice none 0 0,.iface 38 (.int .i64 4)])) ∨
  (∃(k:Int) (l:List UInt8) (B:Option Addr) (c:Nat),Sel a b k l∧e=.returned (.tuple #[.int .i64 k,.int .i64 (seqS l),.slice B (longS l) c,.nilIface])∧OwnI w' w.heap.size (.slice B (longS l) c) (longS l) (u8v (bodyS l))∧longS l≤c))
attribute [local irreducible] seqS longS bodyS sumS
set_option maxRecDepth 100000 in
set_option maxHeartbeats 2000000 in
theorem choose_any(A C:Option Addr)(a b:List UInt8)(n m c d:Nat)(w:World)(hn:n=a.length)(hm:m=b.length)(hnc:n≤c)(hmd:m≤d)(hcm:c≤9223372036854775807)(hdm:d≤9223372036854775807)(ra:Rd w A (u8v a))(rb:Rd w C (u8v b)) :
 Calls Tryz.prog 10 #[.slice A n c,.slice C m d] w (ChoosePost w a b):=by
 have HN:=hide hn;have HM:=hide hm;clear hn hm
 go_enter Tryz.func10,Tryz.ntmps10
 go_wp2_with fail
 refine(open_any A a n c _ HN.out hnc hcm ra).mono ?_;rintro e w1 ⟨hb1,h1⟩;rcases h1 with⟨hWa,rfl⟩|⟨hWa,g,B,c1,rfl,hg,hBk,hrB,hc1⟩
 ·go_wp2_with fail
  refine(open_any C b m d _ HM.out hmd hdm (rb.below hb1)).mono ?_;rintro e w2 ⟨hb2,h2⟩;have hb02:=hb1.trans (hb2.mono hb1.size);have hb1s:=hb1.size;rcases h2 with⟨hWb,rfl⟩|⟨hWb,g2,B2,c2,rfl,hg2,hBk2,hrB2,hc2⟩
  ·have HP:Hid (¬Whole a∧¬ Whole b):=hide ⟨hWa,hWb⟩;clear hWa hWb hb1 hb2
   go_wp2_with fail
   refine bodyPost_ret (v:=.tuple #[.int .i64 0,.int .i64 0,.slice none 0 0,.iface 38 (.int .i64 4)]) (by simp[results,Tryz.results10,go_sem]) rfl ⟨hb02,.inl ⟨HP.out.1,HP.out.2,rfl⟩⟩
  ·have HP:Hid (Sel a b 1 b):=hide (.inr ⟨rfl,rfl,hWb,fun h=>absurd h hWa⟩);clear hWa hWb hb1 hb2;have q0:=hBk2.at_ (i:=0) (u:=.int .i64 (seqS b)) rfl;have q1:=hBk2.at_ (i:=1) (u:=.slice B2 (longS b) c2) rfl
   go_wp2_with fail
   go_region
   go_wp2_with fail
   go_region
   go_wp2_with fail
   refine bodyPost_ret (v:=.tuple #[.int .i64 1,.int .i64 (seqS b),.slice B2 (longS b) c2,.nilIface]) (by simp[results,Tryz.results10,go_sem]) rfl ⟨hb02.drew.drew,.inr ⟨1,b,B2,c2,HP.out,rfl,hrB2.base hb1s,hc2⟩⟩
 ·go_wp2_with fail
  refine(open_any C b m d _ HM.out hmd hdm (rb.below hb1)).mono ?_;rintro e w2 ⟨hb2,h2⟩;have hb02:=hb1.trans (hb2.mono hb1.size);have hb1s:=hb1.size;have hBk':=hBk.below hb2 hBk.lt;have hrB':=hrB.below hb2 (Nat.le_refl _);have q0:=hBk'.at_ (i:=0) (u:=.int .i64 (seqS a)) rfl;have q1:=hBk'.at_ (i:=1) (u:=.slice B (longS a) c1) rfl;rcases h2 with⟨hWb,rfl⟩|⟨hWb,g2,B2,c2,rfl,hg2,hBk2,hrB2,hc2⟩
  ·have HP:Hid (Sel a b 0 a):=hide (.inl ⟨rfl,rfl,hWa,fun h=>absurd h hWb⟩);clear hWa hWb hb1 hb2 hBk hrB
   go_wp2_with fail
   go_region
   go_wp2_with fail
   go_region
   go_wp2_with fail
   refine bodyPost_ret (v:=.tuple #[.int .i64 0,.int .i64 (seqS a),.slice B (longS a) c1,.nilIface]) (by simp[results,Tryz.results10,go_sem]) rfl ⟨hb02.drew.drew,.inr ⟨0,a,B,c1,HP.out,rfl,hrB',hc1⟩⟩
  ·have p0:=hBk2.at_ (i:=0) (u:=.int .i64 (seqS b)) rfl;have p1:=hBk2.at_ (i:=1) (u:=.slice B2 (longS b) c2) rfl;by_cases hlt:seqS a<seqS b
   ·have HP:Hid (Sel a b 1 b):=hide (.inr ⟨rfl,rfl,hWb,fun _=>hlt⟩)
    have hgt:decide ((seqS b:Int)>(seqS a:Int))=true:=by simp;omega
    have hgt':(seqS a:Int)<(seqS b:Int):=by omega
    clear hWa hWb hb1 hb2 hBk hrB hlt
    go_wp2_with fail
    go_region
    go_wp2_with fail
    go_region
    go_wp2_with fail
    refine bodyPost_ret (v:=.tuple #[.int .i64 1,.int .i64 (seqS b),.slice B2 (longS b) c2,.nilIface]) (by simp[results,Tryz.results10,go_sem]) rfl ⟨hb02.drew.drew,.inr ⟨1,b,B2,c2,HP.out,rfl,hrB2.base hb1s,hc2⟩⟩
   ·have HP:Hid (Sel a b 0 a):=hide (.inl ⟨rfl,rfl,hWa,fun _=>by omega⟩)
    have hgt':¬ (seqS a:Int)<(seqS b:Int):=by omega
    clear hWa hWb hb1 hb2 hBk hrB hlt
    go_wp2_with fail
    go_region
    go_wp2_with fail
    go_region
    go_wp2_with fail
    refine bodyPost_ret (v:=.tuple #[.int .i64 0,.int .i64 (seqS a),.slice B (longS a) c1,.nilIface]) (by simp[results,Tryz.results10,go_sem]) rfl ⟨hb02.drew.drew,.inr ⟨0,a,B,c1,HP.out,rfl,hrB',hc1⟩⟩
end SlotW
