/- The law TopNotes in company: true, and the old memory stands. -/
import Derived.Test.YtlaipigilikmbaaGreatDoorNoteSMb
import Derived.Test.YtlaipigilikmbaaGreatDoorMb41
namespace Go.Proofs.YtlaipigilikmbaaGreatDoor
noncomputable section
set_option linter.unusedVariables false
namespace NoteW
open Conc RowKit Co Cl Ph NoteP RecW SlotW SlotP
attribute [local irreducible] NoteW.kC NoteW.kE NoteW.iC NoteW.iE NoteW.hC NoteW.nC NoteW.gC NoteW.xC NoteW.xE NoteW.bodyC slotB bytesOf
abbrev RR:List Item:=[.inLoop bodyC,.inBlock 0,.code (kE 7)]
theorem bat_le{es:List E3}(h:aN es=0):(Rec.bat (natE es)).length≤2000:=by
 obtain⟨h1,h2⟩:=lN h;have hn:∀ x:Int,inN x→(Rec.num x.toNat).length≤9:=fun x hx=>Rec.num_len_le 9 _ (by unfold inN at hx;omega) (by omega)
 have he:∀ l:List E3,(∀e∈l,okE3 e)→(Rec.ents (natE l)).length≤27*l.length:=by
  intro l
  induction l with
  |nil=>intro _;exact Nat.zero_le _
  |cons e l ih =>
   intro hl;have ih:=ih fun x hx=>hl x (List.mem_cons_of_mem _ hx);obtain⟨a,b,c⟩:=hl e (List.mem_cons_self ..);have h1:=hn _ a;have h2:=hn _ b;have h3:=hn _ c;simp only[natE,List.map_cons,Rec.ents,List.length_append,Rec.ent,toN,List.length_cons]at ih⊢;omega
 have h3:=he es h2;have h4:(Rec.num (natE es).length).length≤9:=Rec.num_len_le 9 _ (by rw[natE,List.length_map];omega) (by omega);simp only[Rec.bat,List.length_append,Rec.sum_len,Rec.body];omega
theorem bytes_app(l:List (List E3))(es:List E3):(Rec.flat (natL (l++[es]))).length=(Rec.flat (natL l)).length+(Rec.bat (natE es)).length:=by
 unfold natL;rw[List.map_append,Rec.flat_append,List.length_append];simp[Rec.flat]
theorem bytesOf_eq(l:List (List E3)):bytesOf l=Rec.flat (natL l):=by unfold bytesOf;rfl
theorem want_small{kls:List (List E3)}{es:List E3}(h:(bytesOf kls).length≤4096)(i:Nat)(hf:∀ e∈(kls++[es]).take i,aN e=0):(Rec.flat (natL ((kls++[es]).take i))).length≤100000000:=by
 rw[bytesOf_eq]at h;rcases Nat.lt_or_ge kls.length i with hi|hi
 ·rw[List.take_of_length_le (by simp;omega)]at hf⊢;have:=bat_le (hf es (by simp));rw[bytes_app];omega
 ·rw[List.take_append_of_le_length hi]
  have e:Rec.flat (natL kls)=Rec.flat (natL (kls.take i))++Rec.flat (natL (kls.drop i)):=by
   rw[←Rec.flat_append]
   congr 1
   unfold natL;rw[←List.map_append,List.take_append_drop]
  have:=congrArg List.length e;rw[List.length_append]at this;omega
theorem kls_len{kls:List (List E3)}(h:(bytesOf kls).length≤4096):kls.length≤1000000:=by
 have:=oG kls;omega
section
variable {Q:Value→World→Prop}{W:World}{Z:Nat→Prop}{t:Array Value}{w:World}
variable {A C Ak:Option Addr}{L cp m cq b2 nk ck i:Nat}{ls kls:List (List E3)}{xs:List Int}{any:Bool}{s0 s1:Value}{a b:List UInt8}
def Next(Q:Value→World→Prop)(W:World)(Z:Nat→Prop)(A:Option Addr)(L cp:Nat)(ls:List (List E3))(C:Option Addr)(m cq:Nat)(xs:List Int)(b2 i:Nat):Prop :=
 ∀(any:Bool) (Ak:Option Addr) (nk ck:Nat) (kls:List (List E3)) (s0 s1:Value) (a b:List UInt8) (t:Array Value) (w:World),At A L cp C m cq b2 Ak nk ck any i t→Mem A L cp ls C xs b2 Ak nk ck kls s0 s1 a b w→St (i+1) any a b kls→b2<w.heap.size→WN Q W Z t (.code (nC 0)::RR) w
theorem fin_true{t:Array Value}{u:World}{todo:List Item}(hq:∀ w,(∀x,x<W.heap.size→w.heap[x]? = W.heap[x]?)→(∀x,x<W.heap.size→x<w.heap.size)→w.os=W.os∧w.output=W.output→Q (.bool true) w)(h:RX 134 4 (.bool true) t u.heap):WinsR Tryz.prog Q (EE W) (K0 W) W Z [] 3 t todo .returning u :=
 winsR_end noteF (by kernel_rfl) (fun τ d=>(results_tmp rfl _ _ _).trans (by rw[Array.getD_eq_getD_getElem?,h.2];rfl)) hq
theorem tail(hl:LawOk (EE W) (K0 W) W)(HKZ:∀ x,x<W.heap.size→¬ Z x)(hg:ToldW.ErrT W)(hi:i<4611686018427387904)(hn:Next Q W Z A L cp ls C m cq xs b2 i)
 (hA:At A L cp C m cq b2 Ak nk ck any i t) (hM:Mem A L cp ls C xs b2 Ak nk ck kls s0 s1 a b w) (hs:St (i+1) any a b kls) (hb:b2<w.heap.size):WN Q W Z t (.code (iE 12)::.inBlock 1::.code (nC 0)::RR) w:=by
 have hS:Sound Tryz.prog (EE W):=bV _;rw[iE12];refine ai ?_;refine n28 hl HKZ hM.two hM.sa hM.sb hA.size hA.t6 (fun na nb t2 z2 k2 c12=>?_) fun kk l D q u t2 hsel hbe ho z2 k2 c12 c18=>?_
 ·obtain rfl:=hs.nosel (by omega) na nb;have hA2:=hA.keep z2 k2 (by decide);rw[iE13];refine ai ?_;rw[iC13];refine ai ?_;refine lwp hS (R:=RV 134 [0,1,6,7,8,9,12,18] 109 (.bool true) w fun i=>t2.getD i undef) ⟨_,noteF⟩ (ok_g0 _) (fun τ d=>p29 (Co.re w τ d) false t2 z2 hA2.t8) fun t3 u3 h3=>?_;obtain⟨k3,e3,c109⟩:=h3;have hA3:=hA2.kp k3 (by decide);refine jl true c109 ?_;show WN Q W Z t3 (.code xE::.code (iE 14)::.inBlock 1::.code (nC 0)::RR) u3;rw[xEE];refine ai ?_;refine n30 hl HKZ hg hA3.size (kat k3 (s:=12) (by decide) c12) fun t4 z4 k4 c19=>?_;have hA4:=hA3.keep z4 k4 (by decide);refine ai ?_;refine lwp hS (R:=RK 134 [0,1,6,7,8,9] u3 fun i=>t4.getD i undef) ⟨_,noteF⟩ (ok_x1 _) (fun τ d=>p31 (Co.re u3 τ d) t4 z4 c19) fun t5 u5 h5=>?_;obtain⟨k5,e5⟩:=h5;refine winsR_exit (k2:=.code (nC 0)::RR) rfl ?_;have ee:u5.heap=w.heap:=e5.trans e3;exact hn false Ak nk ck kls s0 s1 a b t5 u5 (hA4.kp k5 (by decide)) (hM.eq ee) hs (by rw[ee];exact hb)
 ·obtain⟨rfl,hbd,hlg⟩:=hs.sel (by omega) hsel;obtain⟨hne,-⟩:=hs.some rfl
  have hpos:0<(bytesOf kls).length:=by
   have:=oG kls;have:=List.length_pos_iff.2 hne;omega
  have hA2:=hA.keep z2 k2 (by decide);rw[hbd,hlg]at ho;rw[hlg]at c18;obtain⟨g,rfl,hgc,-,-,hsl⟩:=slot_own ho hpos (Nat.le_refl _);obtain⟨cur,e,fz,hcur,hnum⟩:=ho.2 g rfl;obtain⟨g',cap',cur',hv',-,-,hcur',-,-,-,-⟩:=oq ho.1 hpos;injection hv' with hv';injection hv' with hv';injection hv' with hv';subst hv';rw[hcur']at hcur;cases hcur;have hH2:HB w.heap u.heap:=.of hbe;rw[iE13];refine ai ?_;rw[iC13];refine ai ?_;refine lwp hS (R:=RV 134 [0,1,6,7,8,9,12,18] 109 (.bool false) u fun i=>t2.getD i undef) ⟨_,noteF⟩ (ok_g0 _) (fun τ d=>p29 (Co.re u τ d) true t2 z2 hA2.t8) fun t3 u3 h3=>?_;obtain⟨k3,e3,c109⟩:=h3;have hA3:=hA2.kp k3 (by decide);have c12':=kat k3 (s:=12) (by decide) c12;have c18':=kat k3 (s:=18) (by decide) c18
  have hH3:HB w.heap u3.heap:=by rw[e3];exact hH2
  refine jl false c109 ?_;show WN Q W Z t3 (.code .skip::.code (iE 14)::.inBlock 1::.code (nC 0)::RR) u3;refine winsR_skip ?_;rw[iE14];refine ai ?_;refine n33 (fun B rb A c l a w h ha=>batch_any B rb A c l a w h ha) hl HKZ (l:=bytesOf kls) (b:=g) (c:=q) (cur:=cur) hA3.size c18' (by rw[e3];exact hcur') (fun x hx=>hnum x (by simpa using hx)) hgc (by omega) (by have:=hs.small;omega) (HB.rd (w:=u) (w':=u3) (by rw[e3];exact HB.refl _) (own_rd ho.1)) fun v0 u4 t4 hbt hb4 z4 k4 c20 c21=>?_;rw[reads_back hs.ok]at hbt c21;have hA4:=hA3.keep z4 k4 (by decide);have hH4:HB w.heap u4.heap:=hH3.trans (.of hb4);have hM4:=hM.hb hH4
  have hrd:RdB u4 v0 kls:=by
   have h:=hbt.rd;rw[natL_back hs.ok]at h;exact h
  rw[iE15];refine ai ?_;refine lwp hS (R:=R34 u4 fun i=>t4.getD i undef) ⟨_,noteF⟩ (ok_i15 _) (fun τ d=>p34 (Co.re u4 τ d) v0 Ak nk ck kls hrd hM4.rk (kls_len hs.small) (fun es he=>by have:=(lN (hs.ok es he)).1;omega) t4 z4 hA4.t7 c20) fun t5 u5 h5=>?_;obtain⟨k5,hb5,c22⟩:=h5;have hA5:=hA4.kp k5 (by decide);have d12:=kat k5 (s:=12) (by decide) ((k4 12 (by decide)).trans c12');have d18:=kat k5 (s:=18) (by decide) ((k4 18 (by decide)).trans c18');have d21:=kat k5 (s:=21) (by decide) c21;simp only[List.length_nil,Nat.sub_zero]at d21;refine lwp hS (R:=RK 134 [0,1,6,7,8,9] u5 fun i=>t5.getD i undef) ⟨_,noteF⟩ (ok_i16 _) (fun τ d=>p35 (Co.re u5 τ d) (some ⟨g,0,none⟩) (bytesOf kls).length q t5 hA5.size d12 d18 d21 c22) fun t6 u6 h6=>?_;obtain⟨k6,e6⟩:=h6;refine winsR_inBlock ?_
  have hH6:HB w.heap u6.heap:=by rw[e6];exact hH4.trans hb5
  exact hn true Ak nk ck kls s0 s1 a b t6 u6 (hA5.kp k6 (by decide)) (hM.hb hH6) hs (Nat.lt_of_lt_of_le hb hH6.1)
theorem inner(hl:LawOk (EE W) (K0 W) W)(HKZ:∀ x,x<W.heap.size→¬ Z x)(hg:ToldW.ErrT W)(hq:∀ w,(∀x,x<W.heap.size→w.heap[x]? = W.heap[x]?)→(∀x,x<W.heap.size→x<w.heap.size)→w.os=W.os∧w.output=W.output→Q (.bool true) w)
 (hi:i<L) (hL:L=ls.length) (hLm:L≤4611686018427387904) (hm:m=xs.length) (hx:∀ x∈xs,-9223372036854775808≤x∧x≤9223372036854775807) (hn:Next Q W Z A L cp ls C m cq xs b2 i)
 (hA:At A L cp C m cq b2 Ak nk ck any i t) (hM:Mem A L cp ls C xs b2 Ak nk ck kls s0 s1 a b w) (hs:St i any a b kls) (hb:b2<w.heap.size):WN Q W Z t (.code (iE 0)::.inBlock 1::.code (nC 0)::RR) w:=by
 have hS:Sound Tryz.prog (EE W):=bV _;have hkl:=kls_len hs.small;obtain⟨es,hes⟩:∃ es,ls[i]? = some es:=⟨_,List.getElem?_eq_getElem (by omega)⟩
 obtain⟨bb,off,A2,n2,c2,hAe,hce,hre⟩:∃ bb off A2 n2 c2,A=some ⟨bb,off,none⟩∧w.cell? ⟨bb,off+i,none⟩=some (.slice A2 n2 c2)∧RdE w (.slice A2 n2 c2) es:=by
  obtain⟨A',c',hv,hrb⟩:=hM.rb;injection hv with v1 v2 v3;subst v1 v3;obtain⟨bb,off,ve,h1,h2,h3⟩:=hrb i es hes;obtain⟨A2,c2,rfl,h4⟩:=h3;exact⟨bb,off,A2,_,c2,h1,h2,A2,c2,rfl,h4⟩
 rw[iE0];refine ai ?_;refine lwp hS (R:=R10 kls w fun i=>t.getD i undef) ⟨_,noteF⟩ (ok_i0 _) (fun τ d=>p10 (Co.re w τ d) Ak nk ck kls hM.rk hkl t hA.size hA.t7) fun t1 u1 h1=>?_;obtain⟨k1,hb1,v10,c10,ho1⟩:=h1;have hA1:=hA.kp k1 (by decide);rw[iE1];refine ai ?_;refine lwp hS (R:=R11 w.heap (kls++[es]) fun i=>t1.getD i undef) ⟨_,noteF⟩ (ok_i1 _) (fun τ d=>p11 (Co.re u1 τ d) w.heap A L cp i v10 A2 n2 c2 kls es bb off hAe (hb1.cell hce) hre hi hb1 ho1 hkl t1 hA1.size hA1.t0 hA1.t9 c10) fun t2 u2 h2=>?_;obtain⟨k2,hb2,v2,d10,ho2⟩:=h2;obtain⟨A10,c10',rfl,hrw,hoff⟩:=own_rdb ho2 hb2;have hA2:=hA1.kp k2 (by decide);clear ho1 ho2 c10 k1 k2 hb1
 have hwl:(kls++[es]).length≤1000000+1:=by simp;omega
 rw[iE2];refine ai ?_;refine lwp hS (R:=R12 (kls++[es]) u2 fun i=>t2.getD i undef) ⟨_,noteF⟩ (ok_i2 _) (fun τ d=>p12 (Co.re u2 τ d) A10 _ c10' (kls++[es]) hrw (by have:=oG kls;have:=hs.small;simp;omega) (fun j hj=>want_small hs.small j hj) t2 hA2.size d10) fun t3 u3 h3=>?_;obtain⟨k3,hb3,h3⟩:=h3;have hA3:=hA2.kp k3 (by decide);have e10:=kat k3 (s:=10) (by decide) d10;have hB3:HB w.heap u3.heap:=hb2.trans hb3;have hrw3:RdB u3 (.slice A10 (kls++[es]).length c10') (kls++[es]):=hrw.below (w':={u2 with heap:=u3.heap}) ⟨rfl,rfl,rfl,hb3.1,hb3.2⟩;rw[iE3];refine ai ?_;rcases h3 with⟨c11,x,c12⟩|⟨hok,c12,B,q0,c11,hrB⟩
 ·exact lret hS (R:=RX 134 4 (.bool true)) ⟨_,noteF⟩ (ok_i3 _) (fun τ d=>p13e (Co.re u3 τ d) x t3 hA3.size c11 c12) fun t4 u4 todo h4=>fin_true hq h4
 by_cases hbig:4096<(bytesOf (kls++[es])).length
 ·exact lret hS (R:=RX 134 4 (.bool true)) ⟨_,noteF⟩ (ok_i3 _) (fun τ d=>p13f (Co.re u3 τ d) B _ q0 hbig t3 hA3.size c11 c12) fun t4 u4 todo h4=>fin_true hq h4
 have hsm:(bytesOf (kls++[es])).length≤4096:=by omega
 refine lwp hS (R:=RK 134 [0,1,6,7,8,9,10,11] u3 fun i=>t3.getD i undef) ⟨_,noteF⟩ (ok_i3 _) (fun τ d=>p13n (Co.re u3 τ d) B _ q0 hsm t3 hA3.size c11 c12) fun t4 u4 h4=>?_;obtain⟨k4,e4⟩:=h4;have hA4:=hA3.kp k4 (by decide);have f10:=kat k4 (s:=10) (by decide) e10;have f11:=kat k4 (s:=11) (by decide) c11;have hrB4:Rd u4 B (u8v (bytesOf (kls++[es]))):=HB.rd (w:=hW u3.heap) (w':=u4) (by rw[e4];exact HB.refl _) hrB;clear c11 c12 e10 d10 k3 k4;rw[iE4];refine ai ?_;refine lwp hS (R:=R15 i (bytesOf (kls++[es])) u4 fun i=>t4.getD i undef) ⟨_,noteF⟩ (ok_i4 _) (fun τ d=>p15 (Co.re u4 τ d) i B q0 (bytesOf (kls++[es])) (by omega) hsm hrB4 t4 hA4.size hA4.t9 f11) fun t5 u5 h5=>?_;obtain⟨k5,hb5,c12,D,c5,c13,hc5,hoI⟩:=h5;have hA5:=hA4.kp k5 (by decide);have g10:=kat k5 (s:=10) (by decide) f10;have hB5:HB w.heap u5.heap:=hB3.trans (by rw[←e4];exact hb5);have hrw5:RdB u5 (.slice A10 (kls++[es]).length c10') (kls++[es]):=hrw3.below (w':={u3 with heap:=u5.heap}) ⟨rfl,rfl,rfl,by rw[←e4];exact hb5.1,by rw[←e4];exact hb5.2⟩;rw[iE5];refine ai ?_;refine lwp hS (R:=RK 134 [0,1,6,7,8,9,10,13] u5 fun i=>t5.getD i undef) ⟨_,noteF⟩ (ok_i5 _) (fun τ d=>p16 (Co.re u5 τ d) t5 hA5.size c12) fun t6 u6 h6=>?_;obtain⟨k6,e6⟩:=h6;have hA6:=hA5.kp k6 (by decide);have h10:=kat k6 (s:=10) (by decide) g10;have h13:=kat k6 (s:=13) (by decide) c13
 have hB6:HB w.heap u6.heap:=by rw[e6];exact hB5
 have hM6:=hM.hb hB6;clear f10 f11 g10 c12 c13 k5 k6;rw[iE6];refine ai ?_;refine n18 hl HKZ hM6.two hM6.sa hM6.sb hA6.size hA6.t6 fun kk t7 hnx z7 k7 c14=>?_;have hA7:=hA6.keep z7 k7 (by decide);have i10:=(k7 10 (by decide)).trans h10;have i13:=(k7 13 (by decide)).trans h13;have hkk:=hnx.range;rw[iE7];refine ai ?_;refine lwp hS (R:=RK 134 [0,1,6,7,8,9,10,13,14] u6 fun i=>t7.getD i undef) ⟨_,noteF⟩ (ok_i7 _) (fun τ d=>p19 (Co.re u6 τ d) kk hkk t7 z7 c14) fun t8 u8 h8=>?_;obtain⟨k8,e8⟩:=h8;have hA8:=hA7.kp k8 (by decide);have j10:=kat k8 (s:=10) (by decide) i10;have j13:=kat k8 (s:=13) (by decide) i13;have j14:=kat k8 (s:=14) (by decide) c14;rw[iE8];refine ai ?_;refine lwp hS (R:=RV 134 [0,1,6,7,8,9,10,13,14] 15 (.int .i64 ((16+(bytesOf (kls++[es])).length:Nat):Int)) u8 fun i=>t8.getD i undef) ⟨_,noteF⟩ (ok_i8 _) (fun τ d=>p21 (Co.re u8 τ d) D _ c5 t8 hA8.size j13) fun t9 u9 h9=>?_;obtain⟨k9,e9,c15⟩:=h9;have hA9:=hA8.kp k9 (by decide);have l10:=kat k9 (s:=10) (by decide) j10;have l13:=kat k9 (s:=13) (by decide) j13;have l14:=kat k9 (s:=14) (by decide) j14;clear h10 h13 i10 i13 j10 j13 j14 c14 k7 k8 k9
 have e95:u9.heap=u5.heap:=by rw[e9,e8,e6]
 rw[iE9];refine ai ?_;refine lwp hS (R:=R22 (16+(bytesOf (kls++[es])).length) u9 fun i=>t9.getD i undef) ⟨_,noteF⟩ (ok_i9 _) (fun τ d=>p22 (Co.re u9 τ d) i C D m cq _ c5 xs (by omega) hm (HB.rd (w:=w) (w':=u9) (by rw[e95];exact hB5) hM.rc) hx t9 hA9.size hA9.t1 hA9.t9 l13 c15) fun tA uA hA'=>?_;obtain⟨kA,eA,q,hqn,cA15⟩:=hA';have hAA:=hA9.kp kA (by decide);have n10:=kat kA (s:=10) (by decide) l10;have n13:=kat kA (s:=13) (by decide) l13;have n14:=kat kA (s:=14) (by decide) l14
 have eA5:uA.heap=u5.heap:=by rw[eA,e95]
 have hMA:=hM.hb (w':=uA) (by rw[eA5];exact hB5);obtain⟨g,rfl,-,hgb,hlen,hsl⟩:=slot_own hoI (by omega) hqn;have hslA:bJ uA (.slice (some ⟨g,0,none⟩) q c5) ((bY (i+1) (kls++[es])).take q):=slot_heap hsl eA5;rw[iE10];refine ai ?_;refine lwp hS (R:=R24 b2 (if kk=0 then .slice (some ⟨g,0,none⟩) q c5 else s0) (if kk=0 then s1 else .slice (some ⟨g,0,none⟩) q c5) uA fun i=>tA.getD i undef) ⟨_,noteF⟩ (ok_i10 _) (fun τ d=>p24 (Co.re uA τ d) b2 g _ c5 q kk s0 s1 hkk hqn hc5 (by omega) hMA.two tA hAA.size hAA.t6 n13 n14 cA15) fun tB uB hB'=>?_;obtain⟨kB,zB,eB,two⟩:=hB';have hAB:=hAA.kp kB (by decide);have o10:=kat kB (s:=10) (by decide) n10;have o13:=kat kB (s:=13) (by decide) n13;have o15:=kat kB (s:=15) (by decide) cA15;have hag:Ag b2 uA.heap uB.heap:=⟨Nat.le_of_eq zB.symm,fun k _ hk=>eB k hk⟩;have hslB:=hslA.ag hag hMA.two hMA.sa.isS hMA.sb.isS;have hsaB:=hMA.sa.ag hag hMA.two hMA.sa.isS hMA.sb.isS;have hsbB:=hMA.sb.ag hag hMA.two hMA.sa.isS hMA.sb.isS
 have hMB:Mem A L cp ls C xs b2 Ak nk ck kls (if kk=0 then .slice (some ⟨g,0,none⟩) q c5 else s0) (if kk=0 then s1 else .slice (some ⟨g,0,none⟩) q c5) (if kk=0 then(bY (i+1) (kls++[es])).take q else a) (if kk=0 then b else(bY (i+1) (kls++[es])).take q) uB:=by
  refine hMA.ag hag two ?_ ?_
  ·split
   ·exact hslB
   ·exact hsaB
  ·split
   ·exact hsbB
   ·exact hslB
 have hrwB:RdB uB (.slice A10 (kls++[es]).length c10') (kls++[es]):=rdb_ag (w:=uA) (hrw5.below (w':={u5 with heap:=uA.heap}) ⟨rfl,rfl,rfl,by rw[eA5];exact Nat.le_refl _,fun k _=>by rw[eA5]⟩) hag hMA.two hMA.sa.isS hMA.sb.isS (.inr fun ad e=>by have:=hoff ad e;omega)
 have hbB:b2<uB.heap.size:=by rw[zB,eA5];exact Nat.lt_of_lt_of_le hb hB5.1
 clear n10 n13 n14 l10 l13 l14 kA kB;rw[iE11];refine ai ?_;rcases Nat.lt_or_ge q (16+(bytesOf (kls++[es])).length) with hlt|hge
 ·refine lwp hS (R:=RK 134 [0,1,6,7,8,9] uB fun i=>tB.getD i undef) ⟨_,noteF⟩ (ok_i11 _) (fun τ d=>p25n (Co.re uB τ d) (some ⟨g,0,none⟩) _ c5 q hlt tB hAB.size o13 o15) fun tC uC hC'=>?_;obtain⟨kC',eC⟩:=hC';exact tail hl HKZ hg (by omega) hn (hAB.kp kC' (by decide)) (hMB.eq eC) (hs.cut (by omega) hnx hsm hlt rfl rfl) (by rw[eC];exact hbB)
 ·have hqe:q=16+(bytesOf (kls++[es])).length:=by omega
  refine lwp hS (R:=R25 (.slice A10 (kls++[es]).length c10') uB fun i=>tB.getD i undef) ⟨_,noteF⟩ (ok_i11 _) (fun τ d=>p25y (Co.re uB τ d) _ (some ⟨g,0,none⟩) _ c5 q hqe tB hAB.size o10 o13 o15) fun tC uC hC'=>?_;obtain⟨kC',eC,c7,c8⟩:=hC';have ht:(bY (i+1) (kls++[es])).take q=bY (i+1) (kls++[es]):=List.take_of_length_le (by rw[slotOf_len];omega);have hst:St (i+1) true (if kk=0 then(bY (i+1) (kls++[es])).take q else a) (if kk=0 then b else(bY (i+1) (kls++[es])).take q) (kls++[es]):=hs.put (by omega) hnx hok hsm (by simp) (by rw[ht]) (by rw[ht]);have hMC:Mem A L cp ls C xs b2 A10 (kls++[es]).length c10' (kls++[es]) _ _ _ _ uB:=⟨hMB.rb,hMB.ao,hMB.rc,hMB.two,hrwB,.inr fun ad e=>by have:=hoff ad e;omega,hMB.sa,hMB.sb⟩;exact tail hl HKZ hg (by omega) hn ⟨kC'.1,kat kC' (by decide) hAB.t0,kat kC' (by decide) hAB.t1,kat kC' (by decide) hAB.t6,c7,c8,kat kC' (by decide) hAB.t9⟩ (hMC.eq eC) hst (by rw[eC];exact hbB)
theorem winsR_body{k:List Item}(hk:WN Q W Z t (.code (.seq (hC 0) (.cond (.tmp 29) .skip (.exit 0)))::.code (.seq (.block 1 (iE 0)) (nC 0))::k) w):WN Q W Z t (.code bodyC::k) w:=by
 rw[bodyCE];exact ai hk
theorem loop(hl:LawOk (EE W) (K0 W) W)(HKZ:∀ x,x<W.heap.size→¬ Z x)(hg:ToldW.ErrT W)(hq:∀ w,(∀x,x<W.heap.size→w.heap[x]? = W.heap[x]?)→(∀x,x<W.heap.size→x<w.heap.size)→w.os=W.os∧w.output=W.output→Q (.bool true) w)
 (hL:L=ls.length) (hLm:L≤4611686018427387904) (hm:m=xs.length) (hx:∀ x∈xs,-9223372036854775808≤x∧x≤9223372036854775807):∀ (n i:Nat) (any:Bool) (Ak:Option Addr) (nk ck:Nat) (kls:List (List E3)) (s0 s1:Value) (a b:List UInt8) (t:Array Value) (w:World),L-i=n→i≤L→At A L cp C m cq b2 Ak nk ck any i t→Mem A L cp ls C xs b2 Ak nk ck kls s0 s1 a b w→St i any a b kls→b2<w.heap.size→WN Q W Z t (.code bodyC::RR) w:=by
 have hS:Sound Tryz.prog (EE W):=bV _;intro n
 induction n with
 |zero=>?_
 |succ n ih=>?_
 all_goals
  intro i any Ak nk ck kls s0 s1 a b t w hn hi hA hM hs hb;refine winsR_body (ai ?_);refine lwp hS (R:=RV 134 [0,1,6,7,8,9] 29 (.bool (decide ((i:Int)<(L:Int)))) w fun i=>t.getD i undef) ⟨_,noteF⟩ (ok_h0 _) (fun τ d=>p8 (Co.re w τ d) A L cp i t hA.size hA.t0 hA.t9) fun t1 u1 h1=>?_;obtain⟨k1,e1,c29⟩:=h1;have hA1:=hA.kp k1 (by decide);have hM1:=hM.eq e1
 ·have ed:decide ((i:Int)<(L:Int))=false:=by simp;omega
  rw[ed]at c29;refine jl false c29 ?_;refine winsR_exit (k2:=[.code (kE 7)]) rfl ?_;exact lret hS (R:=RX 134 4 (.bool true)) ⟨_,noteF⟩ (ok_k7 _) (fun τ d=>p37 (Co.re u1 τ d) t1 hA1.size) fun t2 u2 todo h2=>fin_true hq h2
 ·have hlt:i<L:=by omega
  have ed:decide ((i:Int)<(L:Int))=true:=by simp;omega
  rw[ed]at c29;refine jl true c29 ?_;refine winsR_skip (ai (winsR_block ?_));refine inner hl HKZ hg hq hlt hL hLm hm hx (fun any Ak nk ck kls s0 s1 a b t w hA hM hs hb=>?_) hA1 hM1 hs (by rw[e1];exact hb);refine lwp hS (R:=RV 134 [0,1,6,7,8] 9 (.int .i64 ((i+1:Nat):Int)) w fun i=>t.getD i undef) ⟨_,noteF⟩ (ok_n0 _) (fun τ d=>p9 (Co.re w τ d) i (by omega) t hA.size hA.t9) fun t2 u2 h2=>?_;obtain⟨k2,e2,c9⟩:=h2;refine winsR_again ?_;exact ih (i+1) any Ak nk ck kls s0 s1 a b t2 u2 (by omega) (by omega) ⟨k2.1,kat k2 (by decide) hA.t0,kat k2 (by decide) hA.t1,kat k2 (by decide) hA.t6,kat k2 (by decide) hA.t7,kat k2 (by decide) hA.t8,c9⟩ (hM.eq e2) hs (by rw[e2];exact hb)
theorem note1(hl:LawOk (EE W) (K0 W) W)(HKZ:∀ x,x<W.heap.size→¬ Z x)(hg:ToldW.ErrT W)(hq:∀ w,(∀x,x<W.heap.size→w.heap[x]? = W.heap[x]?)→(∀x,x<W.heap.size→x<w.heap.size)→w.os=W.os∧w.output=W.output→Q (.bool true) w)
 (hL:L=ls.length) (hLm:L≤4611686018427387904) (hm:m=xs.length) (hx:∀ x∈xs,-9223372036854775808≤x∧x≤9223372036854775807) (hrb:RdB w (.slice A L cp) ls) (hrc:Rd w C (LwW.i64v xs))
 (HT:t.size=134) (b0:t[0]? = some (.slice A L cp)) (b1:t[1]? = some (.slice C m cq)):WN Q W Z t [.code (kE 0)] w:=by
 have hS:Sound Tryz.prog (EE W):=bV _;rw[kE0];refine ai ?_;rw[krA];refine cu ?_;rw[ksA,show List.range 1=[0] from rfl];refine aI hS (v:=.bool false) koA_0 hA_0.1 hA_0.2.1 hA_0.2.2 (fun ok f=>.bool _) rfl (bf ?_)
 have HT1:(t.setIfInBounds 4 (.bool false)).size=134:=by simpa using HT
 have c0:(t.setIfInBounds 4 (.bool false))[0]? = _:=(ak (by decide)).trans b0;have c1:(t.setIfInBounds 4 (.bool false))[1]? = _:=(ak (by decide)).trans b1;generalize t.setIfInBounds 4 (.bool false)=t1 at HT1 c0 c1⊢;clear HT b0 b1;rw[kE1];refine ai ?_;rw[krO];refine cu ?_;rw[ksO,show List.range 2=[0,1] from rfl];refine OneW.winsR_one hl HKZ koO_0 (fun t'=>by simp[Region.wanted,hO_0g]) hO_0r hO_0e fun Z1 HKZ1=>?_;rw[hO_0d,put_tmps];refine aI hS (v:=.bool true) koO_1 hO_1.1 hO_1.2.1 hO_1.2.2 trivial (aQ (au (by rw[HT1];decide))) (bf ?_)
 have HT2:((t1.setIfInBounds 23 (.bool true)).setIfInBounds 5 (.bool true)).size=134:=by simpa using HT1
 have d0:((t1.setIfInBounds 23 (.bool true)).setIfInBounds 5 (.bool true))[0]? = _:=(ak (by decide)).trans ((ak (by decide)).trans c0);have d1:((t1.setIfInBounds 23 (.bool true)).setIfInBounds 5 (.bool true))[1]? = _:=(ak (by decide)).trans ((ak (by decide)).trans c1);have d5:((t1.setIfInBounds 23 (.bool true)).setIfInBounds 5 (.bool true))[5]? = some (.bool true):=au (by simp[HT1]);generalize (t1.setIfInBounds 23 (.bool true)).setIfInBounds 5 (.bool true)=t2 at HT2 d0 d1 d5⊢;clear HT1 c0 c1;rw[kE2];refine ai ?_;refine lwp hS (R:=RK 134 [0,1] w fun i=>t2.getD i undef) ⟨_,noteF⟩ (ok_k2 _) (fun τ d=>p2 (Co.re w τ d) t2 HT2 d5) fun t3 u3 h3=>?_;obtain⟨k3,e3⟩:=h3;rw[kE3];refine ai ?_;refine lwp hS (R:=R4 u3 fun i=>t3.getD i undef) ⟨_,noteF⟩ (ok_k3 _) (fun τ d=>p4 (Co.re u3 τ d) t3 k3.1) fun t4 u4 h4=>?_;obtain⟨k4,hb4,hz4,c6,hbk⟩:=h4;have f0:=kat k4 (s:=0) (by decide) (kat k3 (s:=0) (by decide) d0);have f1:=kat k4 (s:=1) (by decide) (kat k3 (s:=1) (by decide) d1);have HT4:=k4.1
 have hB4:HB w.heap u4.heap:=by rw[←e3];exact hb4
 have hM:Mem A L cp ls C xs u3.heap.size none 0 0 [] (.slice none 0 0) (.slice none 0 0) [] [] u4:=by
  refine⟨hrb.below (w':={w with heap:=u4.heap}) ⟨rfl,rfl,rfl,hB4.1,hB4.2⟩,?_,hB4.rd hrc,hbk,⟨none,0,rfl,fun i e hie=>by simp at hie⟩,.inl rfl,.inl ⟨rfl,rfl⟩,.inl ⟨rfl,rfl⟩⟩
  cases hls:ls with
  |nil=>exact .inl rfl
  |cons e0 r0 =>
   refine .inr fun ad e=>?_;obtain⟨A',c',hv,hr⟩:=hrb;injection hv with v1 v2 v3;subst v1 v3;obtain⟨bb,off,ve,h1,h2,-⟩:=hr 0 e0 (by rw[hls];rfl);rw[e]at h1;cases h1;have:=World.block_lt_of_cell? w _ h2;rw[e3];simp only at this⊢;omega
 clear k3 k4 d0 d1 d5 HT2;rw[kE4];refine ai ?_;rw[krB];refine cu ?_;rw[ksB,show List.range 1=[0] from rfl];refine aI hS (v:=.slice none 0 0) koB_0 hB_0.1 hB_0.2.1 hB_0.2.2 (fun ok f=>.sliceN _ _) rfl (bf ?_);rw[kE5];refine ai ?_;rw[krD];refine cu ?_;rw[ksD,show List.range 1=[0] from rfl];refine aI hS (v:=.bool false) koD_0 hD_0.1 hD_0.2.1 hD_0.2.2 (fun ok f=>.bool _) rfl (bf ?_);rw[kE6];refine ai ?_;rw[kC6];refine ai ?_;rw[krG];refine cu ?_;rw[ksG,show List.range 1=[0] from rfl];refine aI hS (v:=.int .i64 0) koG_0 hG_0.1 hG_0.2.1 hG_0.2.2 (fun ok f=>.int _ _) rfl (bf ?_);refine winsR_block (winsR_loop ?_);refine loop (cq:=cq) hl HKZ1 hg hq hL hLm hm hx _ 0 false none 0 0 [] (.slice none 0 0) (.slice none 0 0) [] [] _ u4 rfl (Nat.zero_le _) ⟨?_,?_,?_,?_,?_,?_,?_⟩ hM St.start hz4
 ·simpa using HT4
 ·exact(ak (by decide)).trans ((ak (by decide)).trans ((ak (by decide)).trans f0))
 ·exact(ak (by decide)).trans ((ak (by decide)).trans ((ak (by decide)).trans f1))
 ·exact(ak (by decide)).trans ((ak (by decide)).trans ((ak (by decide)).trans c6))
 ·exact(ak (by decide)).trans ((ak (by decide)).trans (au (by rw[HT4];decide)))
 ·exact(ak (by decide)).trans (au (by simp[HT4]))
 ·exact au (by simp[HT4])
end
end NoteW
