/- The law TopNotes in company: the regions that call what goes in company, operation by operation. -/
import Derived.Test.YtlaipigilikmbaaGreatDoorNoteIMb
import Derived.Test.YtlaipigilikmbaaGreatDoorMb35
import Derived.Test.YtlaipigilikmbaaGreatDoorMb36
import Derived.Test.YtlaipigilikmbaaGreatDoorMb40
namespace Go.Proofs.YtlaipigilikmbaaGreatDoor
noncomputable section
set_option linter.unusedVariables false
namespace NoteW
open Conc RowKit Co Cl Ph NoteP RecW SlotW SlotP
attribute [local irreducible] NoteW.kC NoteW.kE NoteW.iC NoteW.iE NoteW.hC NoteW.nC NoteW.gC NoteW.xC NoteW.xE NoteW.bodyC
def oC(c:Code)(j:Nat):Oper:=((opsOf c)[j]?).getD ⟨none,.move (.tmp 0),0,"",#[],none⟩
abbrev EE(W:World):Env:=⟨fun i=>okL.contains i,told W,Tryz.prog.globals.size⟩
abbrev K0(W:World):Nat→Prop:=fun x=>x<W.heap.size
theorem noteF:Tryz.prog.funcs[3]? = some Tryz.f3:=Tryz.func3
def Ix(o:Oper)(d j:Nat):Prop:=o.guard=none∧o.op=.indexAddr 26 (.tmp 6) (.const (.int .i64 (j:Int)))∧o.dst=some d
def Ld(o:Oper)(d s:Nat):Prop:=o.guard=none∧o.op=.load 25 (.tmp s)∧o.dst=some d
theorem ix_ok(ro:Nat→Prop)(j:Nat):Co.OkOp Tryz.prog (EN ro) (.indexAddr 26 (.tmp 6) (.const (.int .i64 (j:Int)))):=fK (E:=EN ro) rfl (iH ro) (by kernel_rfl)
theorem ld_ok(ro:Nat→Prop)(s:Nat):Co.OkOp Tryz.prog (EN ro) (.load 25 (.tmp s)):=fK (E:=EN ro) rfl (iH ro) (by kernel_rfl)
theorem ix_run0(b2:Nat)(w:World):(Instr.indexAt 26 (ptr b2) (.int .i64 ((0:Nat):Int))).run Tryz.prog w=.ok (ptr b2) w:=by kernel_rfl
theorem ix_run1(b2:Nat)(w:World):(Instr.indexAt 26 (ptr b2) (.int .i64 ((1:Nat):Int))).run Tryz.prog w=.ok (.pointer (some ⟨b2,1,none⟩)) w:=by kernel_rfl
section
variable {Q:Value→World→Prop}{W:World}{Z:Nat→Prop}{t:Array Value}{k:List Item}{w:World}
abbrev WN(Q:Value→World→Prop)(W:World)(Z:Nat→Prop)(t:Array Value)(k:List Item)(w:World):Prop:=WinsR Tryz.prog Q (EE W) (K0 W) W Z [] 3 t k .run w
theorem mr{ops:Array Oper}{i d:Nat}{rest:List Nat}{o:Oper}{b2 j:Nat}(ho:ops[i]? = some o)(hx:Ix o d j)(hj:j=0∨j=1)(h6:t[6]? = some (ptr b2))
 (hk:WN Q W Z (t.setIfInBounds d (.pointer (some ⟨b2,j,none⟩))) (.inRegion ops rest::k) w):WN Q W Z t (.inRegion ops (i::rest)::k) w:=by
 obtain⟨h1,h2,h3⟩:=hx;refine kJ (E:=EE W) (bV _) (v:=.pointer (some ⟨b2,j,none⟩)) ho (fun t'=>by simp[Region.wanted,h1]) (by rw[h2];exact ix_ok (told W) j) (fun τ d=>?_) (by rw[h3];exact hk);unfold execOp;simp only[h2];rw[aQ h6];show((do return Next.value (←Instr.indexAt 26 (ptr b2) (.int .i64 (j:Int)))):Sem Next).run Tryz.prog _=_;rcases hj with rfl|rfl
 ·rw[Sem.run_bind,ix_run0];rfl
 ·rw[Sem.run_bind,ix_run1];rfl
theorem mZ{ops:Array Oper}{i d s:Nat}{rest:List Nat}{o:Oper}{a:Addr}{v:Value}(ho:ops[i]? = some o)(hx:Ld o d s)(hs:t[s]? = some (.pointer (some a)))(hc:w.cell? a=some v)
 (hk:WN Q W Z (t.setIfInBounds d v) (.inRegion ops rest::k) w):WN Q W Z t (.inRegion ops (i::rest)::k) w:=by
 obtain⟨h1,h2,h3⟩:=hx;refine kJ (E:=EE W) (bV _) (v:=v) ho (fun t'=>by simp[Region.wanted,h1]) (by rw[h2];exact ld_ok (told W) s) (fun τ d=>?_) (by rw[h3];exact hk);have hl:=mQ (P:=Tryz.prog) (u:=Co.re w τ d) Tryz.underlying25 rfl hc #[]
 have hl2:(loadVar 25 a).run Tryz.prog (Co.re w τ d)=.ok v (Co.re w τ d):=by rw[←Sem.runT_fst _ _ _ #[],hl]
 unfold execOp;simp only[h2];rw[aQ hs];show((do return Next.value (←loadVar 25 a)):Sem Next).run Tryz.prog _=_;rw[Sem.run_bind,hl2];rfl
def sets(t:Array Value)(l:List (Nat×Value)):Array Value:=l.foldl (fun t p=>t.setIfInBounds p.1 p.2) t
theorem gY(t:Array Value):sets t []=t:=rfl
theorem fD(t:Array Value)(d:Nat)(v:Value)(l:List (Nat×Value)):sets t ((d,v)::l)=sets (t.setIfInBounds d v) l:=rfl
theorem put_tmps(t:Array Value)(d:Nat)(v:Value):(Act.put ⟨t,[]⟩ (some d) v).tmps=t.setIfInBounds d v:=rfl
theorem gV(t:Array Value)(l:List (Nat×Value)):(sets t l).size=t.size:=by
 induction l generalizing t with
 |nil=>rfl
 |cons p l ih=>exact(ih _).trans (by simp)
theorem jq{t:Array Value}{l:List (Nat×Value)}{s:Nat}(h:s∉l.map (·.1)):(sets t l)[s]? = t[s]?:=by
 induction l generalizing t with
 |nil=>rfl
 |cons p l ih =>
  simp only[List.map_cons,List.mem_cons,not_or]at h;exact(ih h.2).trans (ak (Ne.symm h.1))
theorem iQ{t:Array Value}(l:List (Nat×Value)){r:List (Nat×Value)}{s:Nat}{v:Value}(h:s∉r.map (·.1))(hs:s<t.size):(sets t (l++(s,v)::r))[s]? = some v:=by
 induction l generalizing t with
 |nil=>exact(jq h).trans (au hs)
 |cons p l ih=>exact ih (t:=t.setIfInBounds p.1 p.2) (by simpa using hs)
end
theorem krA:kC 0=.region 0 (opsOf (kC 0)) false:=by kernel_rfl
theorem ksA:(opsOf (kC 0)).size=1:=by kernel_rfl
theorem koA_0:(opsOf (kC 0))[0]? = some (oC (kC 0) 0):=by kernel_rfl
theorem hA_0:Hands (oC (kC 0) 0) 4 (.const (.bool false)):=⟨by kernel_rfl,.inr (by kernel_rfl),by kernel_rfl⟩
theorem krB:kC 4=.region 5 (opsOf (kC 4)) false:=by kernel_rfl
theorem ksB:(opsOf (kC 4)).size=1:=by kernel_rfl
theorem koB_0:(opsOf (kC 4))[0]? = some (oC (kC 4) 0):=by kernel_rfl
theorem hB_0:Hands (oC (kC 4) 0) 7 (.const (.slice none 0 0)):=⟨by kernel_rfl,.inr (by kernel_rfl),by kernel_rfl⟩
theorem krD:kC 5=.region 6 (opsOf (kC 5)) false:=by kernel_rfl
theorem ksD:(opsOf (kC 5)).size=1:=by kernel_rfl
theorem koD_0:(opsOf (kC 5))[0]? = some (oC (kC 5) 0):=by kernel_rfl
theorem hD_0:Hands (oC (kC 5) 0) 8 (.const (.bool false)):=⟨by kernel_rfl,.inr (by kernel_rfl),by kernel_rfl⟩
theorem krG:Co.sL (kC 6)=.region 7 (opsOf (Co.sL (kC 6))) false:=by kernel_rfl
theorem ksG:(opsOf (Co.sL (kC 6))).size=1:=by kernel_rfl
theorem koG_0:(opsOf (Co.sL (kC 6)))[0]? = some (oC (Co.sL (kC 6)) 0):=by kernel_rfl
theorem hG_0:Hands (oC (Co.sL (kC 6)) 0) 9 (.const (.int .i64 0)):=⟨by kernel_rfl,.inr (by kernel_rfl),by kernel_rfl⟩
theorem krO:kC 1=.region 1 (opsOf (kC 1)) false:=by kernel_rfl
theorem ksO:(opsOf (kC 1)).size=2:=by kernel_rfl
theorem koO_0:(opsOf (kC 1))[0]? = some (oC (kC 1) 0):=by kernel_rfl
theorem koO_1:(opsOf (kC 1))[1]? = some (oC (kC 1) 1):=by kernel_rfl
theorem hO_0g:(oC (kC 1) 0).guard=none:=by kernel_rfl
theorem hO_0d:(oC (kC 1) 0).dst=some 23:=by kernel_rfl
theorem hO_0r(t':Array Value)(w:World):(execOp (Act.eval ⟨t',[]⟩) (oC (kC 1) 0)).run Tryz.prog w=.ok (.enter 5 #[]) w:=by kernel_rfl
theorem hO_0e(t':Array Value)(w:World):(execOp (Act.eval ⟨t',[]⟩) (oC (kC 1) 0)).events Tryz.prog w #[]=#[]:=by kernel_rfl
theorem hO_1:Hands (oC (kC 1) 1) 5 (.tmp 23):=⟨by kernel_rfl,.inr (by kernel_rfl),by kernel_rfl⟩
theorem krN:iC 6=.region 18 (opsOf (iC 6)) false:=by kernel_rfl
theorem ksN:(opsOf (iC 6)).size=6:=by kernel_rfl
theorem koN_0:(opsOf (iC 6))[0]? = some (oC (iC 6) 0):=by kernel_rfl
theorem koN_1:(opsOf (iC 6))[1]? = some (oC (iC 6) 1):=by kernel_rfl
theorem koN_2:(opsOf (iC 6))[2]? = some (oC (iC 6) 2):=by kernel_rfl
theorem koN_3:(opsOf (iC 6))[3]? = some (oC (iC 6) 3):=by kernel_rfl
theorem koN_4:(opsOf (iC 6))[4]? = some (oC (iC 6) 4):=by kernel_rfl
theorem koN_5:(opsOf (iC 6))[5]? = some (oC (iC 6) 5):=by kernel_rfl
theorem hN_0:Ix (oC (iC 6) 0) 63 0:=⟨by kernel_rfl,by kernel_rfl,by kernel_rfl⟩
theorem hN_1:Ld (oC (iC 6) 1) 64 63:=⟨by kernel_rfl,by kernel_rfl,by kernel_rfl⟩
theorem hN_2:Ix (oC (iC 6) 2) 65 1:=⟨by kernel_rfl,by kernel_rfl,by kernel_rfl⟩
theorem hN_3:Ld (oC (iC 6) 3) 66 65:=⟨by kernel_rfl,by kernel_rfl,by kernel_rfl⟩
theorem hN_4:jB (oC (iC 6) 4) 8 67 (.tmp 64) (.tmp 66):=⟨by kernel_rfl,by kernel_rfl,fun t' w=>by kernel_rfl,fun t' w=>by kernel_rfl⟩
theorem hN_5:Hands (oC (iC 6) 5) 14 (.tmp 67):=⟨by kernel_rfl,.inr (by kernel_rfl),by kernel_rfl⟩
theorem krC:iC 12=.region 28 (opsOf (iC 12)) false:=by kernel_rfl
theorem ksC:(opsOf (iC 12)).size=14:=by kernel_rfl
theorem koC_0:(opsOf (iC 12))[0]? = some (oC (iC 12) 0):=by kernel_rfl
theorem koC_1:(opsOf (iC 12))[1]? = some (oC (iC 12) 1):=by kernel_rfl
theorem koC_2:(opsOf (iC 12))[2]? = some (oC (iC 12) 2):=by kernel_rfl
theorem koC_3:(opsOf (iC 12))[3]? = some (oC (iC 12) 3):=by kernel_rfl
theorem koC_4:(opsOf (iC 12))[4]? = some (oC (iC 12) 4):=by kernel_rfl
theorem koC_5:(opsOf (iC 12))[5]? = some (oC (iC 12) 5):=by kernel_rfl
theorem koC_6:(opsOf (iC 12))[6]? = some (oC (iC 12) 6):=by kernel_rfl
theorem koC_7:(opsOf (iC 12))[7]? = some (oC (iC 12) 7):=by kernel_rfl
theorem koC_8:(opsOf (iC 12))[8]? = some (oC (iC 12) 8):=by kernel_rfl
theorem koC_9:(opsOf (iC 12))[9]? = some (oC (iC 12) 9):=by kernel_rfl
theorem koC_10:(opsOf (iC 12))[10]? = some (oC (iC 12) 10):=by kernel_rfl
theorem koC_11:(opsOf (iC 12))[11]? = some (oC (iC 12) 11):=by kernel_rfl
theorem koC_12:(opsOf (iC 12))[12]? = some (oC (iC 12) 12):=by kernel_rfl
theorem koC_13:(opsOf (iC 12))[13]? = some (oC (iC 12) 13):=by kernel_rfl
theorem hC_0:Ix (oC (iC 12) 0) 99 0:=⟨by kernel_rfl,by kernel_rfl,by kernel_rfl⟩
theorem hC_1:Ld (oC (iC 12) 1) 100 99:=⟨by kernel_rfl,by kernel_rfl,by kernel_rfl⟩
theorem hC_2:Ix (oC (iC 12) 2) 101 1:=⟨by kernel_rfl,by kernel_rfl,by kernel_rfl⟩
theorem hC_3:Ld (oC (iC 12) 3) 102 101:=⟨by kernel_rfl,by kernel_rfl,by kernel_rfl⟩
theorem hC_4:jB (oC (iC 12) 4) 10 103 (.tmp 100) (.tmp 102):=⟨by kernel_rfl,by kernel_rfl,fun t' w=>by kernel_rfl,fun t' w=>by kernel_rfl⟩
theorem hC_5:Hands (oC (iC 12) 5) 98 (.tmp 103):=⟨by kernel_rfl,.inl (by kernel_rfl),by kernel_rfl⟩
theorem hC_6:Parts (oC (iC 12) 6) 104 98 0:=⟨by kernel_rfl,by kernel_rfl,by kernel_rfl⟩
theorem hC_7:Parts (oC (iC 12) 7) 105 98 1:=⟨by kernel_rfl,by kernel_rfl,by kernel_rfl⟩
theorem hC_8:Parts (oC (iC 12) 8) 106 98 2:=⟨by kernel_rfl,by kernel_rfl,by kernel_rfl⟩
theorem hC_9:Parts (oC (iC 12) 9) 107 98 3:=⟨by kernel_rfl,by kernel_rfl,by kernel_rfl⟩
theorem hC_10:Hands (oC (iC 12) 10) 16 (.tmp 104):=⟨by kernel_rfl,.inr (by kernel_rfl),by kernel_rfl⟩
theorem hC_11:Hands (oC (iC 12) 11) 17 (.tmp 105):=⟨by kernel_rfl,.inr (by kernel_rfl),by kernel_rfl⟩
theorem hC_12:Hands (oC (iC 12) 12) 18 (.tmp 106):=⟨by kernel_rfl,.inr (by kernel_rfl),by kernel_rfl⟩
theorem hC_13:Hands (oC (iC 12) 13) 12 (.tmp 107):=⟨by kernel_rfl,.inr (by kernel_rfl),by kernel_rfl⟩
theorem krE:xC 0=.region 30 (opsOf (xC 0)) false:=by kernel_rfl
theorem ksE:(opsOf (xC 0)).size=3:=by kernel_rfl
theorem koE_0:(opsOf (xC 0))[0]? = some (oC (xC 0) 0):=by kernel_rfl
theorem koE_1:(opsOf (xC 0))[1]? = some (oC (xC 0) 1):=by kernel_rfl
theorem koE_2:(opsOf (xC 0))[2]? = some (oC (xC 0) 2):=by kernel_rfl
theorem hE_0:Hands (oC (xC 0) 0) 110 (.tmp 12):=⟨by kernel_rfl,.inl (by kernel_rfl),by kernel_rfl⟩
theorem hE_1:jB (oC (xC 0) 1) 11 111 (.tmp 110) (.const (.int .i64 4)):=⟨by kernel_rfl,by kernel_rfl,fun t' w=>by kernel_rfl,fun t' w=>by kernel_rfl⟩
theorem hE_2:Hands (oC (xC 0) 2) 19 (.tmp 111):=⟨by kernel_rfl,.inr (by kernel_rfl),by kernel_rfl⟩
theorem krR:iC 14=.region 33 (opsOf (iC 14)) false:=by kernel_rfl
theorem ksR:(opsOf (iC 14)).size=7:=by kernel_rfl
theorem koR_0:(opsOf (iC 14))[0]? = some (oC (iC 14) 0):=by kernel_rfl
theorem koR_1:(opsOf (iC 14))[1]? = some (oC (iC 14) 1):=by kernel_rfl
theorem koR_2:(opsOf (iC 14))[2]? = some (oC (iC 14) 2):=by kernel_rfl
theorem koR_3:(opsOf (iC 14))[3]? = some (oC (iC 14) 3):=by kernel_rfl
theorem koR_4:(opsOf (iC 14))[4]? = some (oC (iC 14) 4):=by kernel_rfl
theorem koR_5:(opsOf (iC 14))[5]? = some (oC (iC 14) 5):=by kernel_rfl
theorem koR_6:(opsOf (iC 14))[6]? = some (oC (iC 14) 6):=by kernel_rfl
theorem hR_0:Hands (oC (iC 14) 0) 115 (.tmp 18):=⟨by kernel_rfl,.inl (by kernel_rfl),by kernel_rfl⟩
theorem hR_1g:(oC (iC 14) 1).guard=none:=by kernel_rfl
theorem hR_1d:(oC (iC 14) 1).dst=some 116:=by kernel_rfl
theorem hR_1r(t':Array Value)(w:World):(execOp (Act.eval ⟨t',[]⟩) (oC (iC 14) 1)).run Tryz.prog w=.ok (.enter 12 #[Act.eval ⟨t',[]⟩ (.tmp 115)]) w:=by kernel_rfl
theorem hR_1e(t':Array Value)(w:World):(execOp (Act.eval ⟨t',[]⟩) (oC (iC 14) 1)).events Tryz.prog w #[]=#[]:=by kernel_rfl
theorem hR_2:Hands (oC (iC 14) 2) 114 (.tmp 116):=⟨by kernel_rfl,.inl (by kernel_rfl),by kernel_rfl⟩
theorem hR_3:Parts (oC (iC 14) 3) 117 114 0:=⟨by kernel_rfl,by kernel_rfl,by kernel_rfl⟩
theorem hR_4:Parts (oC (iC 14) 4) 118 114 1:=⟨by kernel_rfl,by kernel_rfl,by kernel_rfl⟩
theorem hR_5:Hands (oC (iC 14) 5) 20 (.tmp 117):=⟨by kernel_rfl,.inr (by kernel_rfl),by kernel_rfl⟩
theorem hR_6:Hands (oC (iC 14) 6) 21 (.tmp 118):=⟨by kernel_rfl,.inr (by kernel_rfl),by kernel_rfl⟩
theorem ok_k2(ro:Nat→Prop):Co.OkCode Tryz.prog (EN ro) (kC 2):=aY ro _ (by decide +kernel)
theorem ok_k3(ro:Nat→Prop):Co.OkCode Tryz.prog (EN ro) (kC 3):=aY ro _ (by decide +kernel)
theorem ok_h0(ro:Nat→Prop):Co.OkCode Tryz.prog (EN ro) (hC 0):=aY ro _ (by decide +kernel)
theorem ok_g0(ro:Nat→Prop):Co.OkCode Tryz.prog (EN ro) (gC 0):=aY ro _ (by decide +kernel)
theorem ok_x1(ro:Nat→Prop):Co.OkCode Tryz.prog (EN ro) (xC 1):=aY ro _ (by decide +kernel)
theorem ok_n0(ro:Nat→Prop):Co.OkCode Tryz.prog (EN ro) (nC 0):=aY ro _ (by decide +kernel)
theorem ok_k7(ro:Nat→Prop):Co.OkCode Tryz.prog (EN ro) (kE 7):=aY ro _ (by decide +kernel)
theorem ok_i16(ro:Nat→Prop):Co.OkCode Tryz.prog (EN ro) (iE 16):=aY ro _ (by decide +kernel)
theorem ok_i0(ro:Nat→Prop):Co.OkCode Tryz.prog (EN ro) (iC 0):=aY ro _ (by decide +kernel)
theorem ok_i1(ro:Nat→Prop):Co.OkCode Tryz.prog (EN ro) (iC 1):=aY ro _ (by decide +kernel)
theorem ok_i2(ro:Nat→Prop):Co.OkCode Tryz.prog (EN ro) (iC 2):=aY ro _ (by decide +kernel)
theorem ok_i3(ro:Nat→Prop):Co.OkCode Tryz.prog (EN ro) (iC 3):=aY ro _ (by decide +kernel)
theorem ok_i4(ro:Nat→Prop):Co.OkCode Tryz.prog (EN ro) (iC 4):=aY ro _ (by decide +kernel)
theorem ok_i5(ro:Nat→Prop):Co.OkCode Tryz.prog (EN ro) (iC 5):=aY ro _ (by decide +kernel)
theorem ok_i7(ro:Nat→Prop):Co.OkCode Tryz.prog (EN ro) (iC 7):=aY ro _ (by decide +kernel)
theorem ok_i8(ro:Nat→Prop):Co.OkCode Tryz.prog (EN ro) (iC 8):=aY ro _ (by decide +kernel)
theorem ok_i9(ro:Nat→Prop):Co.OkCode Tryz.prog (EN ro) (iC 9):=aY ro _ (by decide +kernel)
theorem ok_i10(ro:Nat→Prop):Co.OkCode Tryz.prog (EN ro) (iC 10):=aY ro _ (by decide +kernel)
theorem ok_i11(ro:Nat→Prop):Co.OkCode Tryz.prog (EN ro) (iC 11):=aY ro _ (by decide +kernel)
theorem ok_i15(ro:Nat→Prop):Co.OkCode Tryz.prog (EN ro) (iC 15):=aY ro _ (by decide +kernel)
section
variable {Q:Value→World→Prop}{W:World}{Z:Nat→Prop}{t:Array Value}{k:List Item}{w:World}
theorem setsI{t' t2:Array Value}(h:WN Q W Z t' k w)(e:t'=t2):WN Q W Z t2 k w:=e▸h
theorem n18(hl:LawOk (EE W) (K0 W) W)(HKZ:∀ x,x<W.heap.size→¬ Z x){b2:Nat}{s0 s1:Value}{a b:List UInt8}(h2:Two w b2 s0 s1)(sa:bJ w s0 a)(sb:bJ w s1 b)(HT:t.size=134)(h6:t[6]? = some (ptr b2))
 (hk:∀ (kk:Int) (t':Array Value),kY a b kk→t'.size=134→(∀s∈[0,1,6,7,8,9,10,13],t'[s]? = t[s]?)→t'[14]? = some (.int .i64 kk)→WN Q W Z t' k w):WN Q W Z t (.code (iC 6)::k) w:=by
 have hS:Sound Tryz.prog (EE W):=bV _;have c0:w.cell? ⟨b2,0,none⟩=some s0:=Bk.at_ (w:=w) (g:=b2) (t:=26) (cs:=#[s0,s1]) h2 rfl;have c1:w.cell? ⟨b2,1,none⟩=some s1:=Bk.at_ (w:=w) (g:=b2) (t:=26) (cs:=#[s0,s1]) h2 rfl;rw[krN];refine cu ?_;rw[ksN,show List.range 6=[0,1,2,3,4,5] from rfl];refine mr koN_0 hN_0 (.inl rfl) h6 ?_;refine mZ koN_1 hN_1 (au (by rw[HT];decide)) c0 ?_;refine mr koN_2 hN_2 (.inr rfl) ((ak (by decide)).trans ((ak (by decide)).trans h6)) ?_;refine mZ koN_3 hN_3 (au (by simp[HT])) c1 ?_;refine winsR_nextS hl HKZ koN_4 hN_4 trivial trivial (s0:=s0) (s1:=s1) (aQ ((ak (by decide)).trans ((ak (by decide)).trans (au (by simp[HT]))))) (aQ (au (by simp[HT]))) sa sb fun kk hn=>?_;refine aI hS (v:=.int .i64 kk) koN_5 hN_5.1 hN_5.2.1 hN_5.2.2 trivial (aQ (au (by simp[HT]))) ?_;refine bf (setsI (hk kk (sets t [(63,ptr b2),(64,s0),(65,.pointer (some ⟨b2,1,none⟩)),(66,s1),(67,.int .i64 kk),(14,.int .i64 kk)]) hn ((gV _ _).trans HT) (fun s hs=>jq ?_) (iQ [(63,ptr b2),(64,s0),(65,.pointer (some ⟨b2,1,none⟩)),(66,s1),(67,.int .i64 kk)] (r:=[]) (by simp) (by rw[HT];decide))) (by simp only[fD,gY]));simp only[List.mem_cons,List.not_mem_nil,or_false]at hs
 rcases hs with rfl|rfl|rfl|rfl|rfl|rfl|rfl|rfl<;>simp
theorem n28(hl:LawOk (EE W) (K0 W) W)(HKZ:∀ x,x<W.heap.size→¬ Z x){b2:Nat}{s0 s1:Value}{a b:List UInt8}(h2:Two w b2 s0 s1)(sa:bJ w s0 a)(sb:bJ w s1 b)(HT:t.size=134)(h6:t[6]? = some (ptr b2))
 (hno:¬ Whole a→¬ Whole b→∀ (t':Array Value),t'.size=134→(∀s∈[0,1,6,7,8,9],t'[s]? = t[s]?)→t'[12]? = some (.iface 38 (.int .i64 4))→WN Q W Z t' k w)
 (hyes:∀ (kk:Int) (l:List UInt8) (D:Option Addr) (q:Nat) (u:World) (t':Array Value),Sel a b kk l→Below w.heap.size w u→OwnI u w.heap.size (.slice D (longS l) q) (longS l) (u8v (bodyS l))→t'.size=134→(∀s∈[0,1,6,7,8,9],t'[s]? = t[s]?)→t'[12]? = some .nilIface→t'[18]? = some (.slice D (longS l) q)→WN Q W Z t' k u):WN Q W Z t (.code (iC 12)::k) w:=by
 have hS:Sound Tryz.prog (EE W):=bV _;have c0:w.cell? ⟨b2,0,none⟩=some s0:=Bk.at_ (w:=w) (g:=b2) (t:=26) (cs:=#[s0,s1]) h2 rfl;have c1:w.cell? ⟨b2,1,none⟩=some s1:=Bk.at_ (w:=w) (g:=b2) (t:=26) (cs:=#[s0,s1]) h2 rfl
 have key:∀ (u:World) (v0 v1 v2 v3:Value),(∀t':Array Value,t'.size=134→(∀s∈[0,1,6,7,8,9],t'[s]? = t[s]?)→t'[12]? = some v3→t'[18]? = some v2→WN Q W Z t' k u) →
  WN Q W Z (sets t [(99,ptr b2),(100,s0),(101,.pointer (some ⟨b2,1,none⟩)),(102,s1),(103,.tuple #[v0,v1,v2,v3])]) (.inRegion (opsOf (iC 12)) [5,6,7,8,9,10,11,12,13]::k) u:=by
  intro u v0 v1 v2 v3 hk;have HT1:=(gV t [(99,ptr b2),(100,s0),(101,.pointer (some ⟨b2,1,none⟩)),(102,s1),(103,.tuple #[v0,v1,v2,v3])]).trans HT
  have K1:∀ s∈[0,1,6,7,8,9],(sets t [(99,ptr b2),(100,s0),(101,.pointer (some ⟨b2,1,none⟩)),(102,s1),(103,.tuple #[v0,v1,v2,v3])])[s]? = t[s]?:=fun s hs=>jq (by
   simp only[List.mem_cons,List.not_mem_nil,or_false]at hs
   rcases hs with rfl|rfl|rfl|rfl|rfl|rfl<;>simp)
  have A1:(sets t [(99,ptr b2),(100,s0),(101,.pointer (some ⟨b2,1,none⟩)),(102,s1),(103,.tuple #[v0,v1,v2,v3])])[103]? = some (.tuple #[v0,v1,v2,v3]):=iQ [(99,ptr b2),(100,s0),(101,.pointer (some ⟨b2,1,none⟩)),(102,s1)] (r:=[]) (by simp) (by rw[HT];decide);generalize sets t [(99,ptr b2),(100,s0),(101,.pointer (some ⟨b2,1,none⟩)),(102,s1),(103,.tuple #[v0,v1,v2,v3])]=t1 at HT1 K1 A1⊢;refine aI hS (v:=.tuple #[v0,v1,v2,v3]) koC_5 hC_5.1 hC_5.2.1 hC_5.2.2 trivial (aQ (A1)) ?_;refine bI hS (v:=v0) (vs:=#[v0,v1,v2,v3]) (j:=0) koC_6 hC_6.1 hC_6.2.1 hC_6.2.2 (by rw[hC_6.2.1];exact fK (E:=EN (told W)) rfl (iH _) (by kernel_rfl)) (aQ (au (by simp[HT1]))) rfl ?_;refine bI hS (v:=v1) (vs:=#[v0,v1,v2,v3]) (j:=1) koC_7 hC_7.1 hC_7.2.1 hC_7.2.2 (by rw[hC_7.2.1];exact fK (E:=EN (told W)) rfl (iH _) (by kernel_rfl)) (aQ ((ak (by decide)).trans (au (by simp[HT1])))) rfl ?_;refine bI hS (v:=v2) (vs:=#[v0,v1,v2,v3]) (j:=2) koC_8 hC_8.1 hC_8.2.1 hC_8.2.2 (by rw[hC_8.2.1];exact fK (E:=EN (told W)) rfl (iH _) (by kernel_rfl)) (aQ ((ak (by decide)).trans ((ak (by decide)).trans (au (by simp[HT1]))))) rfl ?_;refine bI hS (v:=v3) (vs:=#[v0,v1,v2,v3]) (j:=3) koC_9 hC_9.1 hC_9.2.1 hC_9.2.2 (by rw[hC_9.2.1];exact fK (E:=EN (told W)) rfl (iH _) (by kernel_rfl)) (aQ ((ak (by decide)).trans ((ak (by decide)).trans ((ak (by decide)).trans (au (by simp[HT1])))))) rfl ?_;refine aI hS (v:=v0) koC_10 hC_10.1 hC_10.2.1 hC_10.2.2 trivial (aQ ((ak (by decide)).trans ((ak (by decide)).trans ((ak (by decide)).trans (au (by simp[HT1])))))) ?_;refine aI hS (v:=v1) koC_11 hC_11.1 hC_11.2.1 hC_11.2.2 trivial (aQ ((ak (by decide)).trans ((ak (by decide)).trans ((ak (by decide)).trans (au (by simp[HT1])))))) ?_;refine aI hS (v:=v2) koC_12 hC_12.1 hC_12.2.1 hC_12.2.2 trivial (aQ ((ak (by decide)).trans ((ak (by decide)).trans ((ak (by decide)).trans (au (by simp[HT1])))))) ?_;refine aI hS (v:=v3) koC_13 hC_13.1 hC_13.2.1 hC_13.2.2 trivial (aQ ((ak (by decide)).trans ((ak (by decide)).trans ((ak (by decide)).trans (au (by simp[HT1])))))) ?_;refine bf (setsI (hk (sets t1 [(98,.tuple #[v0,v1,v2,v3]),(104,v0),(105,v1),(106,v2),(107,v3),(16,v0),(17,v1),(18,v2),(12,v3)]) ((gV _ _).trans HT1) (fun s hs=>(jq ?_).trans (K1 s hs)) (iQ [(98,.tuple #[v0,v1,v2,v3]),(104,v0),(105,v1),(106,v2),(107,v3),(16,v0),(17,v1),(18,v2)] (r:=[]) (by simp) (by rw[HT1];decide)) (iQ [(98,.tuple #[v0,v1,v2,v3]),(104,v0),(105,v1),(106,v2),(107,v3),(16,v0),(17,v1)] (r:=[(12,v3)]) (by simp) (by rw[HT1];decide))) (by simp only[fD,gY]));simp only[List.mem_cons,List.not_mem_nil,or_false]at hs
  rcases hs with rfl|rfl|rfl|rfl|rfl|rfl<;>simp
 rw[krC];refine cu ?_;rw[ksC,show List.range 14=[0,1,2,3,4,5,6,7,8,9,10,11,12,13] from rfl];refine mr koC_0 hC_0 (.inl rfl) h6 ?_;refine mZ koC_1 hC_1 (au (by rw[HT];decide)) c0 ?_;refine mr koC_2 hC_2 (.inr rfl) ((ak (by decide)).trans ((ak (by decide)).trans h6)) ?_;refine mZ koC_3 hC_3 (au (by simp[HT])) c1 ?_;refine winsR_chooseS hl HKZ koC_4 hC_4 trivial trivial (s0:=s0) (s1:=s1) (aQ ((ak (by decide)).trans ((ak (by decide)).trans (au (by simp[HT]))))) (aQ (au (by simp[HT]))) sa sb (fun na nb=>?_) fun kk l D q u h1 h3 h4=>?_
 ·exact setsI (key w (.int .i64 0) (.int .i64 0) (.slice none 0 0) (.iface 38 (.int .i64 4)) fun t' z1 z2 z3 z4=>hno na nb t' z1 z2 z3) (by simp only[fD,gY])
 ·exact setsI (key u (.int .i64 kk) (.int .i64 (seqS l)) (.slice D (longS l) q) .nilIface fun t' z1 z2 z3 z4=>hyes kk l D q u t' h1 h3 h4 z1 z2 z3 z4) (by simp only[fD,gY])
theorem n30(hl:LawOk (EE W) (K0 W) W)(HKZ:∀ x,x<W.heap.size→¬ Z x)(hg:ToldW.ErrT W)(HT:t.size=134)(h12:t[12]? = some (.iface 38 (.int .i64 4)))
 (hk:∀ t':Array Value,t'.size=134→(∀s∈[0,1,6,7,8,9],t'[s]? = t[s]?)→t'[19]? = some (.bool true)→WN Q W Z t' k w):WN Q W Z t (.code (xC 0)::k) w:=by
 have hS:Sound Tryz.prog (EE W):=bV _;rw[krE];refine cu ?_;rw[ksE,show List.range 3=[0,1,2] from rfl];refine aI hS (v:=.iface 38 (.int .i64 4)) koE_0 hE_0.1 hE_0.2.1 hE_0.2.2 trivial (aQ (h12)) ?_;refine winsR_call2 (x:=.tmp 110) (y:=.const (.int .i64 4)) (r:=.bool true) HKZ koE_1 (fun t'=>by simp[Region.wanted,hE_1.2.1]) trivial (fun ok f=>.int _ _) hE_1.2.2.1 hE_1.2.2.2 (aQ (au (by rw[HT];decide))) rfl (fun ok f=>.bool _) (fun f vx' vy' w c a1 a2 hs hk=>err_call hl HKZ hg (.inr ⟨4,rfl,rfl⟩) a1 a2 hs hk) ?_;rw[hE_1.1,put_tmps];refine aI hS (v:=.bool true) koE_2 hE_2.1 hE_2.2.1 hE_2.2.2 trivial (aQ (au (by simp[HT]))) ?_;refine bf (setsI (hk (sets t [(110,.iface 38 (.int .i64 4)),(111,.bool true),(19,.bool true)]) ((gV _ _).trans HT) (fun s hs=>jq ?_) (iQ [(110,.iface 38 (.int .i64 4)),(111,.bool true)] (r:=[]) (by simp) (by rw[HT];decide))) (by simp only[fD,gY]));simp only[List.mem_cons,List.not_mem_nil,or_false]at hs
 rcases hs with rfl|rfl|rfl|rfl|rfl|rfl<;>simp
theorem n33(hbat:nJ)(hl:LawOk (EE W) (K0 W) W)(HKZ:∀ x,x<W.heap.size→¬ Z x){b c:Nat}{cur:Array Value}{l:List UInt8}(HT:t.size=134)(h18:t[18]? = some (.slice (some ⟨b,0,none⟩) l.length c))
 (hb:w.heap[b]? = some (.cells cur 5 (0,0))) (hci:∀ u∈cur,∃k n,u=.int k n) (hlc:l.length≤c) (hc0:0<c) (hl9:l.length≤1000000000) (ra:Rd w (some ⟨b,0,none⟩) (u8v l))
 (hk:∀ (v0:Value) (u:World) (t':Array Value),dh u w.heap.size v0 (Rec.read l).1→Below w.heap.size w u→t'.size=134→(∀s∈[0,1,6,7,8,9,12,18],t'[s]? = t[s]?)→t'[20]? = some v0→t'[21]? = some (.int .i64 ((l.length-(Rec.read l).2.length:Nat):Int))→WN Q W Z t' k u):WN Q W Z t (.code (iC 14)::k) w:=by
 have hS:Sound Tryz.prog (EE W):=bV _;rw[krR];refine cu ?_;rw[ksR,show List.range 7=[0,1,2,3,4,5,6] from rfl];refine aI hS (v:=.slice (some ⟨b,0,none⟩) l.length c) koR_0 hR_0.1 hR_0.2.1 hR_0.2.2 trivial (aQ (h18)) ?_;refine winsR_read hbat (x:=.tmp 115) (b:=b) (c:=c) (cur:=cur) (l:=l) hl HKZ koR_1 (fun t'=>by simp[Region.wanted,hR_1g]) trivial hR_1r hR_1e (aQ (au (by rw[HT];decide))) hb hci hlc hc0 hl9 ra fun v0 u h1 h2=>?_;rw[hR_1d];generalize ((l.length-(Rec.read l).2.length:Nat):Int)=z at hk⊢;have HT1:=(gV t [(115,.slice (some ⟨b,0,none⟩) l.length c),(116,.tuple #[v0,.int .i64 z])]).trans HT
 have K1:∀ s∈[0,1,6,7,8,9,12,18],(sets t [(115,.slice (some ⟨b,0,none⟩) l.length c),(116,.tuple #[v0,.int .i64 z])])[s]? = t[s]?:=fun s hs=>jq (by
  simp only[List.mem_cons,List.not_mem_nil,or_false]at hs
  rcases hs with rfl|rfl|rfl|rfl|rfl|rfl|rfl|rfl<;>simp)
 have A1:(sets t [(115,.slice (some ⟨b,0,none⟩) l.length c),(116,.tuple #[v0,.int .i64 z])])[116]? = some (.tuple #[v0,.int .i64 z]):=iQ [(115,.slice (some ⟨b,0,none⟩) l.length c)] (r:=[]) (by simp) (by rw[HT];decide);rw[put_tmps];refine setsI (t':=sets t [(115,.slice (some ⟨b,0,none⟩) l.length c),(116,.tuple #[v0,.int .i64 z])]) ?_ (by simp only[fD,gY]);generalize sets t [(115,.slice (some ⟨b,0,none⟩) l.length c),(116,.tuple #[v0,.int .i64 z])]=t1 at HT1 K1 A1⊢;refine aI hS (v:=.tuple #[v0,.int .i64 z]) koR_2 hR_2.1 hR_2.2.1 hR_2.2.2 trivial (aQ (A1)) ?_;refine bI hS (v:=v0) (vs:=#[v0,.int .i64 z]) (j:=0) koR_3 hR_3.1 hR_3.2.1 hR_3.2.2 (by rw[hR_3.2.1];exact fK (E:=EN (told W)) rfl (iH _) (by kernel_rfl)) (aQ (au (by simp[HT1]))) rfl ?_;refine bI hS (v:=.int .i64 z) (vs:=#[v0,.int .i64 z]) (j:=1) koR_4 hR_4.1 hR_4.2.1 hR_4.2.2 (by rw[hR_4.2.1];exact fK (E:=EN (told W)) rfl (iH _) (by kernel_rfl)) (aQ ((ak (by decide)).trans (au (by simp[HT1])))) rfl ?_;refine aI hS (v:=v0) koR_5 hR_5.1 hR_5.2.1 hR_5.2.2 trivial (aQ ((ak (by decide)).trans (au (by simp[HT1])))) ?_;refine aI hS (v:=.int .i64 z) koR_6 hR_6.1 hR_6.2.1 hR_6.2.2 trivial (aQ ((ak (by decide)).trans (au (by simp[HT1])))) ?_;refine bf (setsI (hk v0 u (sets t1 [(114,.tuple #[v0,.int .i64 z]),(117,v0),(118,.int .i64 z),(20,v0),(21,.int .i64 z)]) h1 h2 ((gV _ _).trans HT1) (fun s hs=>(jq ?_).trans (K1 s hs)) (iQ [(114,.tuple #[v0,.int .i64 z]),(117,v0),(118,.int .i64 z)] (r:=[(21,.int .i64 z)]) (by simp) (by rw[HT1];decide)) (iQ [(114,.tuple #[v0,.int .i64 z]),(117,v0),(118,.int .i64 z),(20,v0)] (r:=[]) (by simp) (by rw[HT1];decide))) (by simp only[fD,gY]));simp only[List.mem_cons,List.not_mem_nil,or_false]at hs
 rcases hs with rfl|rfl|rfl|rfl|rfl|rfl|rfl|rfl<;>simp
end
end NoteW
