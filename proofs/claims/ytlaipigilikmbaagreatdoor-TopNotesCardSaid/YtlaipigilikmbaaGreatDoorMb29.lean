/- Texts of this seat,put together: WkNwL,WkNewI,WkNwE,WkNwF,WkNwG,WkNwH,LwCall,LwCall2,LwCall3. -/
import Derived.Test.YtlaipigilikmbaaGreatDoorMb28
import Derived.Deep.RegionHeld3
import Derived.Outline
namespace Go.Proofs.YtlaipigilikmbaaGreatDoor
noncomputable section
set_option linter.unusedVariables false
set_option linter.unusedSimpArgs false
namespace Ph
open RowKit
theorem lookup1_run{P:Program}{w:World}{mt kt et:TypeId}{d:IntKind}{bm:Nat}{es:Array MapEntry}{clk:Nat}{l:List Fnd}(hm:P.underlying mt=some (.map kt et))(hk:P.underlying kt=some (.int d))(hz:(P.info? et).bind (·.zero)=some (fv zFnd))(hb:w.heap[bm]? = some (.map es clk))(he:bP es l){x:Int}{y:Fnd}(hy:look1 x l=some y) :
 (Instr.lookup mt (.map (some bm)) (.int .i64 x) false).run P w=.ok (fv y) w:=by
 have hf:=gz (d:=d) x es.toList l 0 he;have h2:=fnd_look x l 0;rw[hy]at h2;obtain⟨r,hr,hr2⟩:=Option.map_eq_some_iff.1 h2;obtain⟨i,v⟩:=r
 dsimp only at hr2
 subst hr2
 have h3:(Instr.lookup mt (.map (some bm)) (.int .i64 x) false).runT P w #[]=(.ok (fv y) w,#[⟨.obj bm,false,false⟩]):=by
  unfold Instr.lookup;refine(aP (Co.Qt.under hm w #[])).trans ?_
  dsimp only
  refine(aP (jO hb)).trans ?_
  dsimp only
  refine(aP (jK (n:=9999) hk w _)).trans ?_;refine(aP (lu hk hf w _)).trans ?_;rw[hr];rfl
 rw[←Sem.runT_fst P _ w #[],h3]
def flatF(L:Nat→Fnd):Nat→List Value
 |0=>[]
 |n+1=>flatF L n++[.int .i64 (L n).lba,.int .i64 (L n).page,.int .i64 (L n).seq,.int .i64 (L n).kind]
theorem kL(L:Nat→Fnd)(n:Nat):(flatF L n).length=n*4:=by
 induction n with
 |zero=>rfl
 |succ n ih=>unfold flatF;rw[List.length_append,ih];simp;omega
theorem flatF_at(L:Nat→Fnd)(n i j:Nat)(hi:i<n)(u:Value)(h:[Value.int .i64 (L i).lba,.int .i64 (L i).page,.int .i64 (L i).seq,.int .i64 (L i).kind][j]? = some u):(flatF L n)[i*4+j]? = some u:=by
 induction n with
 |zero=>omega
 |succ n ih =>
  have hj:j<4:=by
   have:=(List.getElem?_eq_some_iff.1 h).1;simpa using this
  unfold flatF;by_cases e:i=n
  ·subst e
   rw[List.getElem?_append_right (by rw[kL];omega),kL,show i*4+j-i*4=j from by omega];exact h
  ·rw[List.getElem?_append_left (by rw[kL];omega)];exact ih (by omega)
theorem fnd_info:(Tryz.prog.info? 60).map (fun i=>(i.zero,i.size,i.bytes))=some (some (.agg #[.int .i64 0,.int .i64 0,.int .i64 0,.int .i64 0]),4,32):=by kernel_rfl
theorem lQ(w:World){ops:Array Oper}{rest:List Oper}{o:Oper}{a:Act}{Q:Exit→Act→World→Prop}(hgd:o.guard=none)(s x:Operand)
 (ho:o.op=.call {callee:=.builtin .append,args:=#[s,x],argTypes:=#[44,44]})
 (base:Nat) (v:Value) (n:Nat) (S:Nat→Fnd) (hs:a.eval s=v) (hown:w.ownsRow base 60 4 v n (flatF S n)) (hn2:(n+1)*32≤140737488355328)
 (ad:Addr) (hx:a.eval x=.slice (some ad) 1 1) (hc:∀ j u,[Value.int .i64 (S n).lba,.int .i64 (S n).page,.int .i64 (S n).seq,.int .i64 (S n).kind][j]? = some u→w.cell? (ad.add j)=some u) (hbase:base≤w.heap.size)
 (h:∀ D c' w',w'.ownsRow base 60 4 (.slice D (n+1) c') (n+1) (flatF S (n+1))→n+1≤c'→w.grownBy w' v.ownBlock→wpList Tryz.prog ops Q rest (a.put o.dst (.slice D (n+1) c')) w'):wpList Tryz.prog ops Q (o::rest) a w:=by
 refine wpList_plain hgd fun K hK=>?_;obtain⟨i0,hi0,hz0,hz1,hz2⟩:=info_parts fnd_info;obtain⟨v',w',hrun,h2,h3,-,h5⟩:=run_append_own_at (P:=Tryz.prog) w base 44 o.type 60 i0 _ 4 32 Tryz.underlying44 hi0 hz0 hz1 hz2 rfl (by omega) v n (flatF S n) hown ad 1 1 [.int .i64 (S n).lba,.int .i64 (S n).page,.int .i64 (S n).seq,.int .i64 (S n).kind] rfl hc (by intro u hu;simp at hu;rcases hu with rfl|rfl|rfl|rfl<;>rfl) (by simp only[maxLen];omega) hn2 hbase
 have hform:∃ D c',v'=.slice D (n+1) c'∧n+1≤c':=by
  rcases h2.2 with⟨e1,e2⟩|⟨g,cap,cur,e1,-,-,e3,-⟩
  ·omega
  ·exact⟨_,cap,e1,e3⟩
 obtain⟨D,c',rfl,hc'⟩:=hform;unfold Oper.wp execOp;simp only[ho,resolve,invoke,builtin,Sem.run_bind,Sem.run_pure,Result.andThen_ok,List.map_toArray,List.map_cons,List.map_nil,hs,hx,hrun];exact hK _ _ (h D c' w' h2 hc' h3)
def NlP(base:Nat)(L:Nat→Fnd)(m:Nat)(t:Array Value)(h:Array Obj):Prop:=∃ D c',t.size=101∧t[12]? = some (.slice D m c')∧(m=0→D=none∧c'=0)∧({(default:World) with heap:=h}:World).ownsRow base 60 4 (.slice D m c') m (flatF L m)
theorem own_heap{w:World}{base:Nat}{e:TypeId}{z n:Nat}{v:Value}{xs:List Value}(h:w.ownsRow base e z v n xs):({(default:World) with heap:=w.heap}:World).ownsRow base e z v n xs:=h
attribute [local irreducible] flatF
set_option maxRecDepth 20000 in
set_option maxHeartbeats 4000000 in
theorem nl_walk(S:Option Addr)(m q bm:Nat)(es:Array MapEntry)(clk:Nat)(l:List Fnd)(L:Nat→Fnd)(u:Nat→Value)(w:World)(hb:w.heap[bm]? = some (.map es clk))(he:bP es l)(hm:m≤4096)
 (hS:Rd w S ((List.range m).map fun k=>.int .i64 (L k).lba)) (hL:∀ k,k<m→look1 (L k).lba l=some (L k)) :
 cNL.wp Tryz.prog (fun|.normal,a,w'=>NlP w.heap.size L m a.tmps w'.heap|.ret,a,w=>False|_,_,_=>False) ⟨neT bm (.slice none 0 0) (.slice S m q) m 0 u,[]⟩ w:=by
 rw[show cNL=Co.sR (Co.sL (Co.sR (Co.sR (Co.sR (Co.sR (Co.sR ((Tryz.f14.body).getD .skip))))))) by kernel_rfl];unfold neT;simp only[Tryz.f14,Co.sL,Co.sR,Option.getD];have hbl:bm<w.heap.size:=(Array.getElem?_eq_some_iff.1 hb).1;have HM:=hide hb;have HS:=hide hS;have HL:=hide hL;have HE:=hide he;clear hb hS hL he
 go_wp2_with fail
 go_loopw [12,89] (fun v i wr=>∃ (k cc:Nat) (D:Option Addr),v=.slice D k cc∧i=.int .i64 k∧k≤m∧k≤cc∧(k=0→D=none∧cc=0)∧Hid (wr.ownsRow w.heap.size 60 4 (.slice D k cc) k (flatF L k))∧Hid (Below w.heap.size w wr)) (fun _ i _=>m-(intOf i).toNat)
 case atStart=>exact⟨0,0,none,rfl,rfl,by omega,by omega,fun _=>⟨rfl,rfl⟩,hide (by unfold flatF;exact World.ownsRow_nil _ _ _ _),hide (Below.refl _ _)⟩
 case round =>
  obtain⟨k,cc,D,rfl,rfl,hk,hkc,hz,HO,HB⟩:=hrel;have HZ:=hide hz;clear hz;by_cases hlt:k<m
  ·have e1:decide (k<m)=true:=by simpa using hlt
   have e1':decide ((k:Int)<(m:Int))=true:=by simp;omega
   have hki:(k:Int)<(m:Int):=by omega
   have q0:(0:Int)≤(k:Int):=by omega
   obtain⟨b,off,rfl,hc⟩:=HS.out.at_ (i:=k) (by simpa using hlt);have hbb:b<w.heap.size:=World.block_lt_of_cell? w _ hc
   have hc1:wr.cell? ⟨b,off+k,none⟩=some (.int .i64 (L k).lba):=by
    rw[HB.out.cell (p:=⟨b,_,none⟩) hbb,hc];simp
   have hlk:=HL.out k hlt
   have hmm:wr.heap[bm]? = some (.map es clk):=by rw[HB.out.block bm hbl];exact HM.out
   obtain⟨x,hx⟩:∃ x,x=L k:=⟨_,rfl⟩;rw[←hx]at hc1 hlk;have HX:=hide hx;clear hx;have hrun:=lookup1_run (P:=Tryz.prog) (mt:=81) (kt:=3) (et:=60) (d:=.i64) Tryz.underlying81 Tryz.underlying3 (by kernel_rfl) hmm HE.out hlk;unfold fv at hrun;clear hlk hc
   go_wp2_with (first
    |(have hal:=(Below.refl wr.heap.size wr).alloc (Nat.le_refl _) (.cells #[.int .i64 x.lba,.int .i64 x.page,.int .i64 x.seq,.int .i64 x.kind] 60)
      refine lQ _ rfl (.tmp 93) (.tmp 97) rfl w.heap.size (.slice D k cc) k L rfl (own_below HO.out hal (Nat.le_refl _)) (by omega) ⟨wr.heap.size,0,none⟩ rfl ?_ ?_ ?_
      ·intro j u hu;rw[←HX.out]at hu;rw[Addr.add_lit,Nat.zero_add,←hu];exact(World.cell?_alloc_new wr _ _ j).trans (by simp)
      ·exact Nat.le_trans HB.out.size hal.size
      intro D' c' w' ho' hc' hg';have HO':=hide ho';have HB':=hide (((HB.out.alloc HB.out.size (.cells #[.int .i64 x.lba,.int .i64 x.page,.int .i64 x.seq,.int .i64 x.kind] 60))).grown hg' (by exact Nat.le_trans HB.out.size hal.size) (fun k h=>(HO.out.lt k h).1))
      clear ho' hg' hal))
   go_roundw
   case rel=>exact⟨k+1,c',D',rfl,by go_num,by omega,hc',fun h=>by omega,HO',HB'⟩
   case measure=>simp[intOf];omega
  ·obtain rfl:k=m:=by omega
   have e1:decide (k<k)=false:=by simp
   have e1':decide ((k:Int)<(k:Int))=false:=by simp
   go_wp2_with fail
   exact⟨D,cc,rfl,rfl,HZ.out,own_heap HO.out⟩
end Ph
namespace Ph
open Conc Co Cl OpenW
structure NewI(pg:Nat→List UInt8)(L:Nat)(l:List Fnd):Prop where
 srt:l.Pairwise fun a b=>a.lba<b.lba
 is_:∀ e∈l,∃k,k<L∧dJ pg k∧e=fndOf pg k
 max:∀ e∈l,∀j,j<L→dJ pg j→(fndOf pg j).lba=e.lba→¬ dD (fndOf pg j) e
 has:∀ k,k<L→dJ pg k→∃ e∈l,e.lba=(fndOf pg k).lba
theorem nG:∀ {l:List Fnd} {e:Fnd},(l.map (·.lba)).Nodup→e∈l→look1 e.lba l=some e
 |f::l,e,h,he=>by
  simp only[List.map_cons,List.nodup_cons]at h;unfold look1;by_cases e1:e.lba=f.lba
  ·rw[if_pos e1];rcases List.mem_cons.1 he with e2|e2
   ·rw[e2]
   ·exact absurd (List.mem_map.2 ⟨e,e2,e1⟩) h.1
  ·rw[if_neg e1];rcases List.mem_cons.1 he with e2|e2
   ·exact absurd (by rw[e2]) e1
   ·exact nG h.2 e2
theorem upd_len(x:Fnd):∀ l:List Fnd,(upd x l).length≤l.length+1
 |[]=>by simp[upd]
 |f::l=>by
  unfold upd;split
  ·simp
  ·have:=upd_len x l;simp;omega
theorem best_len(pg:Nat→List UInt8):∀ R:List Nat,(aH pg R).length≤R.length
 |[]=>Nat.le_refl _
 |k::R=>by
  have ih:=best_len pg R;show(stepF pg k (aH pg R)).length≤_;have hu:=upd_len (fndOf pg k) (aH pg R);unfold stepF;simp only[List.length_cons];split
  ·split
   ·omega
   ·split<;>omega
  ·omega
theorem all_once{L:Nat}{R:List Nat}(h:∀ k,k<L→R.count k=1)(hR:∀ k∈R,k<L):R.length=L:=by
 have:R.Perm (List.range L):=by
  refine List.perm_iff_count.2 fun a=>?_;by_cases ha:a<L
  ·rw[h a ha];have h1:0<(List.range L).count a:=List.count_pos_iff.2 (List.mem_range.2 ha);have h2:(List.range L).count a≤1:=List.nodup_iff_count.1 List.nodup_range a;omega
  ·rw[List.count_eq_zero.2 fun hm=>ha (hR a hm),List.count_eq_zero.2 fun hm=>ha (List.mem_range.1 hm)]
 rw[this.length_eq];simp
theorem opn_lba(l:List UInt8):0≤(opn l).2.1∧(opn l).2.1<4294967296:=by
 unfold opn;have:=lbaOf_lt l;split
 ·exact⟨by dsimp only;omega,by dsimp only;omega⟩
 ·split<;>exact⟨by decide,by decide⟩
theorem fnd_lba(pg:Nat→List UInt8)(k:Nat):0≤(fndOf pg k).lba∧(fndOf pg k).lba<4294967296:=opn_lba (pg k)
theorem new_of{pg:Nat→List UInt8}{L:Nat}{R:List Nat}{ks:List Int}(hR:∀ k,k<L→R.count k=1)(hR2:∀ k∈R,k<L)(hp:ks.Perm ((aH pg R).map (·.lba)))(hs:ks.Pairwise (·≤·)) :
 NewI pg L (ks.map fun k=>(look1 k (aH pg R)).getD zFnd)∧∀ k∈ks,∃y,look1 k (aH pg R)=some y∧y.lba=k:=by
 have hb:=best_inv pg R
 have hk:∀ k∈ks,∃y,look1 k (aH pg R)=some y∧y.lba=k∧y∈aH pg R:=fun k hk=>by
  obtain⟨y,hy,rfl⟩:=List.mem_map.1 (hp.mem_iff.1 hk);exact⟨y,nG hb.nod hy,rfl,hy⟩
 have hmem:∀ e,e∈(ks.map fun k=>(look1 k (aH pg R)).getD zFnd)↔e∈aH pg R:=fun e=>by
  refine⟨fun he=>?_,fun he=>?_⟩
  ·obtain⟨k,h1,rfl⟩:=List.mem_map.1 he;obtain⟨y,h2,h3,h4⟩:=hk k h1;rw[h2];exact h4
  ·refine List.mem_map.2 ⟨e.lba,hp.mem_iff.2 (List.mem_map.2 ⟨e,he,rfl⟩),?_⟩;rw[nG hb.nod he];rfl
 have inR:∀ k,k<L→k∈R:=fun k hk=>List.count_pos_iff.1 (by rw[hR k hk];decide);refine⟨⟨?_,fun e he=>?_,fun e he j hj hc hx=>?_,fun k hkL hc=>?_⟩,fun k h=>let ⟨y,h1,h2,_⟩:=hk k h;⟨y,h1,h2⟩⟩
 ·have hn:ks.Nodup:=hp.nodup_iff.2 hb.nod
  have hlt:ks.Pairwise (·<·):=(hs.and hn).imp fun {a b} h=>by
   obtain⟨h1,h2⟩:=h;have h2:a≠b:=h2;omega
  refine List.pairwise_map.2 (hlt.imp_of_mem fun {a b} ha hb' hab=>?_);obtain⟨y,h1,h2,-⟩:=hk a ha;obtain⟨z,h3,h4,-⟩:=hk b hb';rw[h1,h3];show y.lba<z.lba;omega
 ·obtain⟨k,h1,h2,h3⟩:=hb.is_ e ((hmem e).1 he);exact⟨k,hR2 k h1,h2,h3⟩
 ·exact hb.max e ((hmem e).1 he) j (inR j hj) hc hx
 ·obtain⟨e,he,hx⟩:=hb.has k (inR k hkL) hc;exact⟨e,(hmem e).2 he,hx⟩
theorem better_or(pg:Nat→List UInt8){j k:Nat}(h:¬ dD (fndOf pg j) (fndOf pg k))(h2:¬ dD (fndOf pg k) (fndOf pg j)):j=k:=by
 unfold dD fndOf at h h2
 dsimp only at h h2
 omega
theorem NewI.mem{pg:Nat→List UInt8}{L:Nat}{l:List Fnd}(h:NewI pg L l)(e:Fnd):e∈l↔∃k,k<L∧dJ pg k∧e=fndOf pg k∧∀ j,j<L→dJ pg j→(fndOf pg j).lba=e.lba→¬ dD (fndOf pg j) e:=by
 refine⟨fun he=>?_,?_⟩
 ·obtain⟨k,h1,h2,h3⟩:=h.is_ e he;exact⟨k,h1,h2,h3,fun j hj hc hx=>h.max e he j hj hc hx⟩
 ·rintro⟨k,h1,h2,h3,h4⟩;obtain⟨e',he',hx⟩:=h.has k h1 h2;obtain⟨k',q1,q2,q3⟩:=h.is_ e' he';have a1:=h.max e' he' k h1 h2 hx.symm;have a2:=h4 k' q1 q2 (by rw[←q3,hx,h3]);rw[q3]at a1;rw[h3]at a2;have:k=k':=better_or pg a1 a2;subst this;rw[h3,←q3];exact he'
theorem srt_eq:∀ {l m:List Fnd},(l.Pairwise fun a b=>a.lba<b.lba)→(m.Pairwise fun a b=>a.lba<b.lba)→(∀e,e∈l↔e∈m)→l=m
 |[],[],_,_,_=>rfl
 |[],b::m,_,_,h=>absurd ((h b).2 List.mem_cons_self) (by simp)
 |a::l,[],_,_,h=>absurd ((h a).1 List.mem_cons_self) (by simp)
 |a::l,b::m,hl,hm,h=>by
  have hl':=List.pairwise_cons.1 hl;have hm':=List.pairwise_cons.1 hm
  have hab:a=b:=by
   rcases List.mem_cons.1 ((h a).1 List.mem_cons_self) with e|e
   ·exact e
   ·rcases List.mem_cons.1 ((h b).2 List.mem_cons_self) with e2|e2
    ·exact e2.symm
    ·have:=hl'.1 b e2;have:=hm'.1 a e;omega
  subst hab;refine congrArg _ (srt_eq hl'.2 hm'.2 fun e=>⟨fun he=>?_,fun he=>?_⟩)
  ·rcases List.mem_cons.1 ((h e).1 (List.mem_cons_of_mem _ he)) with e2|e2
   ·have:=hl'.1 e he;rw[e2]at this;omega
   ·exact e2
  ·rcases List.mem_cons.1 ((h e).2 (List.mem_cons_of_mem _ he)) with e2|e2
   ·have:=hm'.1 e he;rw[e2]at this;omega
   ·exact e2
theorem NewI.uniq{pg:Nat→List UInt8}{L:Nat}{l m:List Fnd}(h:NewI pg L l)(k:NewI pg L m):l=m :=
 srt_eq h.srt k.srt fun e=>(h.mem e).trans (k.mem e).symm
end Ph
namespace Ph
open Conc Co Cl
def RowsC(w:World)(e:TypeId)(size:Nat)(D:Option Addr)(m cap:Nat)(xs:List Value):Prop :=
 (D=none∧m=0∧cap=0∧xs=[])∨∃g cur fz,D=some ⟨g,0,none⟩∧w.heap[g]? = some (.cells cur e fz)∧(∀o,fz.1≤o→¬ o<fz.2)∧m≤cap∧cap≤maxLen∧cur.size=cap*size∧cur.toList.take (m*size)=xs
theorem ar_take{ok:FuncId→Bool}{f:Fm}:∀ {c c':List Value} {n:Nat},(∀(i:Nat) u u',c[i]? = some u→c'[i]? = some u'→VR ok f u u')→c.length=c'.length→(∀u∈c.take n,∃k x,u=.int k x)→c'.take n=c.take n
 |[],[],_,_,_,_=>by simp
 |[],_::_,_,_,h,_=>by cases h
 |_::_,[],_,_,h,_=>by cases h
 |a::c,b::d,0,_,_,_=>by simp
 |a::c,b::d,n+1,h,hl,hi=>by
  have h0:=h 0 a b rfl rfl;obtain⟨k,x,rfl⟩:=hi a (by simp);cases h0;simp only[List.take_succ_cons,List.cons.injEq,true_and];exact ar_take (fun i u u' h1 h2=>h (i+1) u u' h1 h2) (by simpa using hl) fun u hu=>hi u (by simp[hu])
theorem rows_of{E:Env}{f:Fm}{u w:World}{base:Nat}{e:TypeId}{size m cap:Nat}{D:Option Addr}{v':Value}{xs:List Value}(hw:WR E f u w)(ho:u.ownsRow base e size (.slice D m cap) m xs)(hm:m=0→D=none∧cap=0)(hx:∀ v∈xs,∃k x,v=.int k x)(hv:VR E.ok f (.slice D m cap) v') :
 ∃D',v'=.slice D' m cap∧RowsC w e size D' m cap xs∧(∀a,D'=some a→∃ r,f r=some a.block):=by
 obtain⟨h1,⟨h2,h3⟩|⟨g,cap',cur,h2,h3,h4,h5,h6,h7,h8⟩⟩:=ho
 ·injection h2 with q1 q2 q3;subst q1 q2 q3;cases hv;exact⟨none,rfl,.inl ⟨rfl,rfl,rfl,List.eq_nil_of_length_eq_zero (by omega)⟩,fun a e=>by cases e⟩
 ·injection h2 with q1 q2 q3;subst q1 q3
  have key:∀ b',f g=some b'→∃ D',Value.slice (some ⟨b',0,none⟩) m cap=.slice D' m cap∧RowsC w e size D' m cap xs∧(∀a,D'=some a→∃ r,f r=some a.block):=by
   intro b' hb;obtain⟨o,o',k1,k2,k3⟩:=hw.obj g b' hb;rw[h4]at k1;cases k1
   cases k3 with
   |@cells _ c' _ _ fr' ha hf =>
    refine⟨_,rfl,.inr ⟨b',c',fr',rfl,k2,fun o h1 h2=>?_,h5,h6,by rw[←ha.size];exact h7,?_⟩,fun a ea=>by cases ea;exact⟨g,hb⟩⟩
    ·have:=hf o h1 h2;simp at this
    ·rw[←h8];refine ar_take (fun i u u' a b=>ha.at_ i u u' (by simpa using a) (by simpa using b)) (by simpa using ha.size) ?_;rw[h8];exact hx
  cases hv with
  |slice hb=>exact key _ hb
  |slice0 a a' =>
   exact absurd (hm rfl).1 (by simp)
set_option maxRecDepth 20000 in
set_option maxHeartbeats 4000000 in
theorem nr_walk(t:Array Value)(v:Value)(ht:t.size=101)(h12:t[12]? = some v)(w:World)(H:Array Obj)(hw:w.heap=H) :
 cNR.wp Tryz.prog (fun|.normal,a,w=>False|.ret,a,w'=>a.tmps.size=101∧a.tmps[4]? = some v∧a.tmps[5]? = some .nilIface∧w'.heap=H|_,_,_=>False) ⟨t,[]⟩ w:=by
 rw[show cNR=Co.sR (Co.sR (Co.sR (Co.sR (Co.sR (Co.sR ((Tryz.f14.body).getD .skip)))))) by kernel_rfl];simp only[Tryz.f14,Co.sR,Option.getD]
 go_wp2_with fail
 exact(Array.getElem?_eq_some_iff.1 h12).2
theorem neT_eq(bm:Nat)(out sl:Value)(m i:Int)(u:Nat→Value):neT bm out sl m i u=(((((Array.ofFn fun j:Fin 101=>u j.1).setIfInBounds 7 (.map (some bm))).setIfInBounds 12 out).setIfInBounds 87 sl).setIfInBounds 88 (.int .i64 m)).setIfInBounds 89 (.int .i64 i):=by kernel_rfl
theorem ar_junk{ok:FuncId→Bool}{f:Fm}(N:Nat)(u:Nat→Value):∃ u0:Nat→Value,AR ok f (Array.ofFn fun j:Fin N=>u0 j.1) (Array.ofFn fun j:Fin N=>u j.1):=by
 have:∀ j,∃x,VR ok f x (u j):=fun j=>let ⟨x,hx⟩:=lW _ (u j) (Nat.le_refl _);⟨x,hx ok f⟩;obtain⟨u0,hu⟩:=Classical.axiomOfChoice this;refine⟨u0,by simp,fun i a b ha hb=>?_⟩;obtain⟨h1,rfl⟩:=Array.getElem?_eq_some_iff.1 ha;obtain⟨h2,rfl⟩:=Array.getElem?_eq_some_iff.1 hb;simpa using hu i
theorem neX_run(A:Option Addr)(L cp n:Nat)(c:Frame)(cs:List Frame)(bm bc:Nat)(f:Nat→Value)(w:World):(execOp (aOf (neX A L cp n c cs bm bc f)).eval (oOf (neX A L cp n c cs bm bc f))).runT Tryz.prog w #[]=(.ok (.value (.pointer (some ⟨w.heap.size,0,none⟩))) {w with heap:=w.heap.push (.cells #[.map (some bm)] 81 (0,0))},#[]):=by kernel_rfl
def nlW(G:Nat)(o1 o2:Obj):World:={(default:World) with heap:=Array.replicate G (.cells #[] 0 (0,0))++#[o1,o2]}
theorem nlW_gl(G:Nat)(o1 o2:Obj){r:Nat}(h:r<G):(nlW G o1 o2).heap[r]? = some (.cells #[] 0 (0,0)):=by
 unfold nlW;rw[Array.getElem?_append_left (by simpa using h),Array.getElem?_replicate,if_pos h]
theorem nlW_1(G:Nat)(o1 o2:Obj):(nlW G o1 o2).heap[G]? = some o1:=by
 unfold nlW;rw[Array.getElem?_append_right (by simp)];simp
theorem nlW_2(G:Nat)(o1 o2:Obj):(nlW G o1 o2).heap[G+1]? = some o2:=by
 unfold nlW;rw[Array.getElem?_append_right (by simp)];simp
theorem nlW_size(G:Nat)(o1 o2:Obj):(nlW G o1 o2).heap.size=G+2:=by simp[nlW]
theorem nl_rel{w:World}{bm g:Nat}{es:Array MapEntry}{clk:Nat}{l:List Fnd}{cur:Array Value}{fz:Nat×Nat}{ks:List Int}{e:TypeId}(hb:w.heap[bm]? = some (.map es clk))(he:bP es l)(hg:w.heap[g]? = some (.cells cur e fz))(hne:bm≠g)(hks:∀ (i:Nat) (k:Int),ks[i]? = some k→cur[i]? = some (Value.int .i64 k)) :
 ∃(f:Fm) (w0:World),f Tryz.prog.globals.size=some bm∧f (Tryz.prog.globals.size+1)=some g∧(∀x,ownOf (EN noB) f x→x=bm∨x=g)∧WR (EN noB) f (Co.re w0 w.tape w.drawn) w∧w0.heap[Tryz.prog.globals.size]? = some (.map es clk)∧Rd w0 (some ⟨Tryz.prog.globals.size+1,0,none⟩) (ks.map fun k=>Value.int .i64 k):=by
 obtain⟨f,hf⟩:∃ f:Fm,f=fun r=>if r=Tryz.prog.globals.size then some bm else if r=Tryz.prog.globals.size+1 then some g else none:=⟨_,rfl⟩
 have f1:f Tryz.prog.globals.size=some bm:=by rw[hf];exact if_pos rfl
 have f2:f (Tryz.prog.globals.size+1)=some g:=by rw[hf];simp
 have fe:∀ {r x},f r=some x→(r=Tryz.prog.globals.size∧x=bm)∨(r=Tryz.prog.globals.size+1∧x=g):=fun {r x} h=>by
  rw[hf]at h;simp only at h;split at h
  ·cases h;exact .inl ⟨by assumption,rfl⟩
  ·split at h
   ·cases h;exact .inr ⟨by assumption,rfl⟩
   ·cases h
 obtain⟨cr,hcr,hcell⟩:=row_ex (ok:=(EN noB).ok) (f:=f) cur (fun i=>(ks[i]?).map fun k=>Value.int .i64 k) (fun i u u' h1 h2=>by
  obtain⟨k,hk,rfl⟩:=Option.map_eq_some_iff.1 h1;rw[hks i k hk]at h2;cases h2
  exact .int _ _)
 obtain⟨w0,hw0⟩:∃ w0,w0=nlW Tryz.prog.globals.size (.map es clk) (.cells cr e (0,fz.2)):=⟨_,rfl⟩
 have a1:w0.heap[Tryz.prog.globals.size]? = some (.map es clk):=by rw[hw0];exact nlW_1 _ _ _
 have a2:w0.heap[Tryz.prog.globals.size+1]? = some (.cells cr e (0,fz.2)):=by rw[hw0];exact nlW_2 _ _ _
 refine⟨f,w0,f1,f2,fun x hx=>?_,⟨rfl,rfl,fun r r' h=>?_,fun r s x h1 h2=>?_,fun r r' o h1 h2=>h2.elim,fun x _ h=>h.elim,fun r r' h=>?_,fun r hr=>⟨0,by rw[hw0];exact nlW_gl _ _ _ hr⟩,?_⟩,a1,?_⟩
 ·obtain⟨⟨r,h⟩,-⟩:=hx;exact(fe h).imp And.right And.right
 ·rcases fe h with⟨rfl,rfl⟩|⟨rfl,rfl⟩
  ·refine⟨_,_,a1,hb,.map rfl fun i x x' h1 h2=>?_⟩;rw[h1]at h2;cases h2
   have hm:(x.key,x.val)∈l.map fun x=>(Value.int .i64 x.lba,fv x):=by
    rw[←he];exact List.mem_map.2 ⟨x,by simpa using Array.mem_of_getElem? h1,rfl⟩
   obtain⟨y,-,hy⟩:=List.mem_map.1 hm;simp only[Prod.mk.injEq]at hy;obtain⟨q1,q2⟩:=hy;rw[←q1,←q2];refine⟨.int _ _,rfl,?_⟩;refine(AR.flat fun u hu=>?_).agg;simp only[List.mem_toArray,List.mem_cons,List.not_mem_nil,or_false]at hu
   rcases hu with rfl|rfl|rfl|rfl<;>exact fun ok f=>.int _ _
  ·exact⟨_,_,a2,hg,.cells hcr fun o h1 h2=>⟨Nat.zero_le _,h2⟩⟩
 ·rcases fe h1 with⟨rfl,rfl⟩|⟨rfl,rfl⟩<;>rcases fe h2 with⟨rfl,e⟩|⟨rfl,e⟩
  ·rfl
  ·exact absurd e hne
  ·exact absurd e.symm hne
  ·rfl
 ·rcases fe h with⟨rfl,-⟩|⟨rfl,-⟩
  ·exact Nat.le_refl _
  ·exact Nat.le_succ _
 ·show _≤w0.heap.size;rw[hw0,nlW_size];exact Nat.le_add_right _ _
 ·refine .inr ⟨_,0,rfl,fun i u hu=>?_⟩;rw[List.getElem?_map]at hu;obtain⟨k,hk,rfl⟩:=Option.map_eq_some_iff.1 hu;have h3:=(Array.getElem?_eq_some_iff.1 (hks i k hk)).1;unfold World.cell?;simp only[a2,Nat.zero_add];exact hcell i _ (by rw[hk];rfl) h3
end Ph
namespace Ph
open Conc Co Cl
def NewR(pg:Nat→List UInt8)(L:Nat)(W:World)(Z Z':Bl)(l:List Fnd)(D:Option Addr)(cap:Nat)(w':World):Prop :=
 NewI pg L l∧RowsC w' 60 4 D l.length cap (flatF (fun i=>l.getD i zFnd) l.length)∧(∀a,D=some a→W.heap.size≤a.block∧¬ Z' a.block)∧(∀b,b<W.heap.size→¬ Z b→w'.heap[b]? = W.heap[b]?)∧(∀x,Z' x→x<w'.heap.size)∧w'.os=W.os∧w'.output=W.output
theorem nZ(L:Nat→Fnd):∀ n,∀v∈flatF L n,∃k x,v=.int k x
 |0,v,h=>by simp[flatF]at h
 |n+1,v,h=>by
  unfold flatF at h;rcases List.mem_append.1 h with h|h
  ·exact nZ L n v h
  ·simp only[List.mem_cons,List.not_mem_nil,or_false]at h;rcases h with rfl|rfl|rfl|rfl<;>exact⟨_,_,rfl⟩
theorem tuple2_rel{ok:FuncId→Bool}{f:Fm}{a b v':Value}(h:VR ok f (.tuple #[a,b]) v'):∃ a' b',v'=.tuple #[a',b']∧VR ok f a a'∧VR ok f b b':=by
 cases h with
 |@tuple _ x' hx ex =>
  have:∃ y:List Value,x'=y.toArray∧y.length=2:=⟨x'.toList,by simp,by simpa using hx.symm⟩;obtain⟨y,rfl,hy⟩:=this
  match y,hy with
  |[p,q],_=>exact⟨p,q,rfl,ex 0 _ _ rfl rfl,ex 1 _ _ rfl rfl⟩
attribute [local irreducible] cNL cNR
theorem cNL_b:dI Tryz.prog (fun i=>okL.contains i) (fun i=>exL.contains i) cNL=true:=by decide +kernel
theorem cNR_b:dI Tryz.prog (fun i=>okL.contains i) (fun i=>exL.contains i) cNR=true:=by decide +kernel
theorem cNL_ok:Co.OkCode Tryz.prog (EN noB) cNL:=aY noB cNL cNL_b
theorem cNR_ok:Co.OkCode Tryz.prog (EN noB) cNR:=aY noB cNR cNR_b
theorem nw_fn:Tryz.prog.funcs[14]? = some Tryz.f14:=Tryz.func14
section
variable {Q:Value→World→Prop}{W w:World}{A:Option Addr}{L cp n bc:Nat}{pg:Nat→List UInt8}{Z Z':Bl}{c:Frame}{cs:List Frame}{es:Array MapEntry}{clk:Nat}{R:List Nat}
theorem newest_out{w0:World}{S:Option Addr}{q bm:Nat}{u:Nat→Value}{l0:List Fnd}{l:List Fnd}(hw0:w0.heap[bm]? = some (.map es clk))(he:bP es l0)(hm:l.length≤4096)(hS:Rd w0 S ((List.range l.length).map fun k=>.int .i64 (l.getD k zFnd).lba))(hL:∀ k,k<l.length→look1 (l.getD k zFnd).lba l0=some (l.getD k zFnd))(hN:NewI pg L l)
 (hZZ:∀ b,Z b→Z' b)
 (hk:∀ D cap w',NewR pg L W Z Z' l D cap w'→Wins Tryz.prog Q Z' (G (c.finish (.tuple #[.slice D l.length cap,.nilIface])) cs) w') :
 WinsR Tryz.prog Q (EN noB) (fun x=>x<W.heap.size∧¬ Z x) W Z' (c::cs) 14 (neT bm (.slice none 0 0) (.slice S l.length q) l.length 0 u) [.code cNL,.code cNR] .run w0:=by
 refine iM (bV noB) (R:=fun x t h=>x=false∧NlP w0.heap.size (fun i=>l.getD i zFnd) l.length t h) ⟨_,nw_fn⟩ cNL_ok (fun τ d=>?_) ?_ (fun t2 u todo h=>by cases h.1)
 ·refine Code.wp_mono (fun e a w1 h=>?_) (nl_walk S l.length q bm es clk l0 (fun i=>l.getD i zFnd) u (Co.re w0 τ d) hw0 he hm hS hL)
  cases e with
  |normal=>exact⟨rfl,h⟩
  |ret=>exact h.elim
  |_=>exact h
 ·rintro t2 u2 ⟨-,D,c',h1,h2,h3,h4⟩;refine iM (bV noB) (R:=fun x t h=>x=true∧t.size=101∧t[4]? = some (.slice D l.length c')∧t[5]? = some .nilIface∧h=u2.heap) ⟨_,nw_fn⟩ cNR_ok (fun τ d=>?_) (fun t2 u h=>by cases h.1) ?_
  ·refine Code.wp_mono (fun e a w1 h=>?_) (nr_walk t2 _ h1 h2 (Co.re u2 τ d) u2.heap rfl)
   cases e with
   |normal=>exact h.elim
   |ret=>exact⟨rfl,h⟩
   |_=>exact h
  ·rintro t3 u3 todo ⟨-,k1,k2,k3,k4⟩;refine winsR_leave (v:=.tuple #[.slice D l.length c',.nilIface]) nw_fn (fun τ d=>?_) ?_
   ·refine(results_tmp2 rfl _ _ _).trans ?_;rw[Array.getD_eq_getD_getElem?,Array.getD_eq_getD_getElem?,k2,k3];rfl
   ·intro f v' w' hv hw hs;obtain⟨a',b',rfl,q1,q2⟩:=tuple2_rel hv;cases q2
    have h4':(Co.re u3 w'.tape w'.drawn).ownsRow w0.heap.size 60 4 (.slice D l.length c') l.length (flatF (fun i=>l.getD i zFnd) l.length):=by
     have e:(Co.re u3 w'.tape w'.drawn).heap=u2.heap:=k4;unfold World.ownsRow at h4⊢;rw[e];exact h4
    obtain⟨D',e1,hr,ho⟩:=rows_of hw h4' h3 (nZ _ _) q1;subst e1;refine hk D' c' w' ⟨hN,hr,fun a ha=>?_,fun b hb hz=>hs.old b ⟨hb,hz⟩,hs.zed,hs.still⟩;have hown:=hs.own a.block ⟨ho a ha,id⟩;refine⟨?_,hown.2⟩;rcases Nat.lt_or_ge a.block W.heap.size with h|h
    ·by_cases hz:Z a.block
     ·exact absurd (hZZ _ hz) hown.2
     ·exact absurd ⟨h,hz⟩ hown.1
    ·exact h
end
end Ph
namespace Ph
open Conc Co Cl RowKit
def TyOk(w:World)(Z:Bl):Prop:=Tryz.prog.globals.size<w.heap.size∧¬ Z Tryz.prog.globals.size∧∀ E:Ev,∀o,w.heap[Tryz.prog.globals.size]? = some o→CO E o
theorem ints_eq{l:List Fnd}{ks:List Int}(h:l.map (·.lba)=ks):((List.range l.length).map fun k=>Value.int .i64 (l.getD k zFnd).lba)=ks.map fun k=>Value.int .i64 k:=by
 subst h;refine List.ext_getElem? fun i=>?_;simp only[List.getElem?_map];by_cases hi:i<l.length
 ·rw[List.getElem?_range hi,List.getElem?_eq_getElem hi];simp[List.getD,List.getElem?_eq_getElem hi]
 ·rw[List.getElem?_eq_none (by simpa using hi),List.getElem?_eq_none (by simpa using hi)];rfl
section
variable {Q:Value→World→Prop}{W w:World}{A:Option Addr}{L cp n bc:Nat}{pg:Nat→List UInt8}{Z Z':Bl}{c:Frame}{cs:List Frame}{es:Array MapEntry}{clk:Nat}{R:List Nat}{f:Nat→Value}
theorem newest_tail(hb:w.heap[W.heap.size]? = some (.map es clk))(he:bP es (aH pg R))(hst:MapKept.Stamped es clk)(hR:∀ k,k<L→R.count k=1)(hR2:∀ k∈R,k<L)(hL:L≤4096)(hold:∀ b,b<W.heap.size→¬ Z b→w.heap[b]? = W.heap[b]?)(hsz:W.heap.size+6≤w.heap.size)(hso:w.os=W.os∧w.output=W.output)
 (hZZ:∀ b,Z b→Z' b) (hZl:∀ x,Z' x→x<W.heap.size+6) (hZb:¬ Z' W.heap.size) (hZG:¬ Z' Tryz.prog.globals.size) (hT:TyOk W Z)
 (hk:∀ l D cap w',NewR pg L W Z Z' l D cap w'→Wins Tryz.prog Q Z' (G (c.finish (.tuple #[.slice D l.length cap,.nilIface])) cs) w'):Wins Tryz.prog Q Z' (nwW A L cp n c cs W.heap.size bc f) w:=by
 obtain⟨hT1,hT2,hT3⟩:=hT;refine az 16 (neW_calm A L cp n c cs W.heap.size bc f) ?_;obtain⟨w1,hw1⟩:∃ w1:World,w1={w with heap:=w.heap.push (.cells #[.map (some W.heap.size)] 81 (0,0))}:=⟨_,rfl⟩
 have s1:w1.heap.size=w.heap.size+1:=by rw[hw1];simp
 have hat:∀ x,x<w.heap.size→w1.heap[x]? = w.heap[x]?:=fun x hx=>by rw[hw1,Array.getElem?_push,if_neg (by omega)]
 have hbox:w1.heap[w.heap.size]? = some (.cells #[.map (some W.heap.size)] 81 (0,0)):=by rw[hw1,Array.getElem?_push,if_pos rfl]
 have key:Wins Tryz.prog Q Z' (fin (neX A L cp n c cs W.heap.size bc f) (.pointer (some ⟨w.heap.size,0,none⟩))) w1:=by
  refine az 10 (neY_calm A L cp n c cs W.heap.size bc f w.heap.size) ?_;rw[neY_it];obtain⟨P1,hP1⟩:∃ P1:Nat→Prop,P1=fun x=>x=W.heap.size∨x=Tryz.prog.globals.size∨w.heap.size≤x:=⟨_,rfl⟩
  have hlen:(aH pg R).length≤4096:=by
   have h1:=best_len pg R;have h2:=all_once hR hR2;omega
  have hlba:∀ x∈aH pg R,-9223372036854775808≤x.lba∧x.lba<9223372036854775808:=fun x hx=>by
   obtain⟨k,-,-,rfl⟩:=(best_inv pg R).is_ x hx;have:=fnd_lba pg k;omega
  refine wins_call (A:=P1) (snd (by show P1 _;rw[hP1];exact .inr (.inl rfl))) (fun x hx hp=>?_) (R:=fun v w'=>∃ ss:List Int,ss.Perm ((aH pg R).map fun x:Fnd=>x.lba)∧w'.ownsRow w1.heap.size 3 1 v ss.length ((ss.mergeSort (fun x y=>decide (x≤y))).map encZ)∧(v=.slice none 0 0↔ss=[])∧(∀k,k<w1.heap.size→w'.heap[k]? = w1.heap[k]?)∧w1.heap.size≤w'.heap.size) (fun v w τ d h=>h) (by decide) ?_ ?_ (fun τ d=>?_) ?_
  ·rw[hP1]at hp;rcases hp with h|h|h
   ·rw[h]at hx;exact hZb hx
   ·rw[h]at hx;exact hZG hx
   ·have:=hZl x hx;omega
  ·refine CA.one ?_
   refine .func (by show okl okA _;decide) (fun u hu=>by simp at hu) fun u hu=>?_;simp only[List.mem_toArray,List.mem_singleton]at hu;subst hu;refine .ptr ?_;show P1 _;rw[hP1];exact .inr (.inr (Nat.le_refl _))
  ·refine⟨fun r o hr ho=>?_,fun x hx=>?_⟩
   ·have hr:P1 r:=hr;rw[hP1]at hr;rcases hr with h|h|h
    ·rw[h,hat _ (by omega),hb]at ho;cases ho;refine .map fun x hx=>?_
     have hm:(x.key,x.val)∈(aH pg R).map fun x=>(Value.int .i64 x.lba,fv x):=by
      rw[←he];exact List.mem_map.2 ⟨x,by simpa using hx,rfl⟩
     obtain⟨y,-,hy⟩:=List.mem_map.1 hm;simp only[Prod.mk.injEq]at hy;obtain⟨q1,q2⟩:=hy;rw[←q1,←q2];refine⟨.int _ _,.agg fun u hu=>?_⟩;simp only[List.mem_toArray,List.mem_cons,List.not_mem_nil,or_false]at hu
     rcases hu with rfl|rfl|rfl|rfl<;>exact .int _ _
    ·rw[h,hat _ (by omega),hold _ hT1 hT2]at ho;exact hT3 _ o ho
    ·have hr2:=(Array.getElem?_eq_some_iff.1 ho).1
     have:r=w.heap.size:=by omega
     rw[this,hbox]at ho;cases ho;refine .cells (CA.one (.map ?_));show P1 _;rw[hP1];exact .inl rfl
   ·show P1 x;rw[hP1];exact .inr (.inr (by omega))
  ·refine(Tryz.sorted_any (w:=Co.re w1 τ d) (bm:=W.heap.size) (Bm:=w.heap.size) (es:=es) (clk:=clk) (l:=aH pg R) ?_ he hst hlen hlba ?_).mono ?_
   ·exact(hat _ (by omega)).trans hb
   ·unfold World.cell?;have:(Co.re w1 τ d).heap[w.heap.size]? = _:=hbox;simp only[this];rfl
   ·rintro e w' ⟨v,ss,rfl,h1,h2,h3,h4⟩;exact⟨ss,h1,h2,h3,h4.block,h4.size⟩
  ·rintro v w2 ⟨ss,h1,h2,h3,h4,h5⟩ - - hfw;obtain⟨ks,hks⟩:∃ ks,ks=ss.mergeSort (fun x y=>decide (x≤y)):=⟨_,rfl⟩
   have hperm:ks.Perm ss:=by rw[hks];exact List.mergeSort_perm _ _
   have hsort:ks.Pairwise (·≤·):=by
    rw[hks];have:=List.pairwise_mergeSort (le:=fun x y:Int=>decide (x≤y)) (by intro a b c h1 h2;simp only[decide_eq_true_eq]at *;omega) (by intro a b;simp only[Bool.or_eq_true,decide_eq_true_eq];omega) ss;exact this.imp fun {a b} h=>of_decide_eq_true h
   rw[←hks]at h2;obtain⟨hN,hlk⟩:=new_of hR hR2 (hperm.trans h1) hsort;obtain⟨l,hl⟩:∃ l,l=ks.map fun k=>(look1 k (aH pg R)).getD zFnd:=⟨_,rfl⟩;rw[←hl]at hN
   have hlm:l.map (·.lba)=ks:=by
    rw[hl,List.map_map];refine(List.map_congr_left fun k hk=>?_).trans (List.map_id _);obtain⟨y,q1,q2⟩:=hlk k hk;simp only[Function.comp,q1,Option.getD_some,q2,id]
   have hll:l.length=ss.length:=by rw[←hperm.length_eq,←hlm,List.length_map]
   have hl4:l.length≤4096:=by
    rw[hll,h1.length_eq,List.length_map];exact hlen
   have hlook:∀ k,k<l.length→look1 (l.getD k zFnd).lba (aH pg R)=some (l.getD k zFnd):=fun k hk=>by
    have e1:l.getD k zFnd=l[k]:=by simp[List.getD,List.getElem?_eq_getElem hk]
    rw[e1];have:l[k]∈l:=List.getElem_mem hk;generalize l[k]=y at this;rw[hl]at this;obtain⟨x,hx,rfl⟩:=List.mem_map.1 this;obtain⟨y,q1,q2⟩:=hlk x hx;rw[q1];simp only[Option.getD_some,q2];exact q1
   have hbm2:w2.heap[W.heap.size]? = some (.map es clk):=(h4 _ (by omega)).trans ((hat _ (by omega)).trans hb)
   have go:∀ (S:Option Addr) (q g:Nat) (cur:Array Value) (e:TypeId) (fz:Nat×Nat),v=.slice S l.length q→w2.heap[g]? = some (.cells cur e fz)→w.heap.size≤g→(S=none∧l.length=0∨S=some ⟨g,0,none⟩∧∀ (i:Nat) (k:Int),ks[i]? = some k→cur[i]? = some (Value.int .i64 k))→Wins Tryz.prog Q Z' (G ((neZ A L cp n c cs W.heap.size bc f w.heap.size).finish v) (c::cs)) w2:=by
    intro S q g cur e fz hv hg hgl hS;subst hv;refine az 3 (neZ_calm A L cp n c cs W.heap.size bc f w.heap.size S l.length q) ?_;rw[neZ_it];generalize (fun i=>(neZ4 A L cp n c cs W.heap.size bc f w.heap.size S l.length q).frame.tmps.getD i undef)=u
    obtain⟨kS,hk1,hS⟩:∃ kS:List Int,(∀(i:Nat) (k:Int),kS[i]? = some k→cur[i]? = some (Value.int .i64 k))∧(S=none∧l.length=0∨S=some ⟨g,0,none⟩∧kS=ks):=by
     rcases hS with⟨h,h2⟩|⟨h,h2⟩
     ·exact⟨[],fun i k hi=>by simp at hi,.inl ⟨h,h2⟩⟩
     ·exact⟨ks,h2,.inr ⟨h,rfl⟩⟩
    obtain⟨f1,w0,a1,a2,a3,a4,a5,a6⟩:=nl_rel (w:=w2) (bm:=W.heap.size) (g:=g) (es:=es) (clk:=clk) (l:=aH pg R) (cur:=cur) (fz:=fz) (ks:=kS) (e:=e) hbm2 he hg (by omega) hk1;obtain⟨u0,hu0⟩:=ar_junk (ok:=(EN noB).ok) (f:=f1) 101 u
    obtain⟨S0,hS0,hRd⟩:∃ S0,VR (EN noB).ok f1 (.slice S0 l.length q) (.slice S l.length q)∧Rd w0 S0 ((List.range l.length).map fun k=>.int .i64 (l.getD k zFnd).lba):=by
     rcases hS with⟨rfl,h⟩|⟨rfl,h⟩
     ·refine⟨none,.sliceN _ _,?_⟩;rw[h];exact Rd.nil _ _
     ·refine⟨_,.slice a2,?_⟩;rw[ints_eq hlm,←h];exact a6
    have hW:=newest_out (Q:=Q) (W:=W) (pg:=pg) (L:=L) (Z:=Z) (Z':=Z') (c:=c) (cs:=cs) (w0:=w0) (S:=S0) (q:=q) (bm:=Tryz.prog.globals.size) (u:=u0) (l0:=aH pg R) (l:=l) a5 he hl4 hRd hlook hN hZZ (fun D cap w' h=>hk l D cap w' h);refine hW f1 _ w2 ?_ a4 ⟨fun x hx=>?_,fun x hx=>by omega,fun x hx=>?_,fun x hx=>?_,fun x hx=>hx.elim,by omega,hfw.os.trans ((by rw[hw1]:w1.os=w.os).trans hso.1),hfw.output.trans ((by rw[hw1]:w1.output=w.output).trans hso.2)⟩
    ·rw[neT_eq,neT_eq];exact((((hu0.set 7 (.map a1)).set 12 (.sliceN 0 0)).set 87 hS0).set 88 (.int _ _)).set 89 (.int _ _)
    ·rw[h4 x (by omega),hat x (by omega),hold x hx.1 hx.2]
    ·rcases a3 x hx with rfl|rfl
     ·exact⟨fun h=>by omega,hZb⟩
     ·refine⟨fun h=>by omega,fun h=>?_⟩;have:=hZl _ h;omega
    ·have:=hZl x hx;omega
   obtain⟨p1,⟨p2,p3⟩|⟨g,cap,cur,p2,p3,p4,p5,p6,p7,p8⟩⟩:=h2
   ·refine go none 0 w.heap.size _ _ _ (by rw[p2,hll,p3]) ((h4 _ (by omega)).trans hbox) (Nat.le_refl _) (.inl ⟨rfl,by omega⟩)
   ·refine go _ cap g cur _ (0,0) (by rw[p2,hll]) p4 (by omega) (.inr ⟨rfl,fun i k hi=>?_⟩)
    have h6:(ks.map encZ)[i]? = some (Value.int .i64 k):=by
     rw[List.getElem?_map,hi];rfl
    rw[←p8,List.getElem?_take]at h6;split at h6
    ·simpa using h6
    ·cases h6
 show Wins Tryz.prog Q Z' (neX A L cp n c cs W.heap.size bc f) w;refine dO (v:=.pointer (some ⟨w.heap.size,0,none⟩)) (w':=w1) (neX_at A L cp n c cs W.heap.size bc f) (by kernel_rfl) (fun τ d=>?_) ?_
 ·rw[hw1];exact neX_run A L cp n c cs W.heap.size bc f (Co.re w τ d)
 ·intro gs sl t q τ d h0 hLv hP;exact key gs sl t q τ d h0 hLv (hP.mono (by omega))
end
end Ph
namespace Ph
open Conc Co Cl RowKit
def fullV:Value:=.tuple #[.slice none 0 0,.iface 38 (.int .i64 3)]
section
variable (A:Option Addr)(L cp n:Nat)(c:Frame)(cs:List Frame)
def nwC':Goroutine:=fin (it Tryz.prog 9 (nwB A L cp n c cs)) (.bool true)
theorem nwC'_calm:Calms Tryz.prog true 25 (nwC' A L cp n c cs):=by
 iterate 25 refine⟨by kernel_rfl,fun _=>by kernel_rfl,?_⟩
 trivial
theorem nwC'_it:it Tryz.prog 25 (nwC' A L cp n c cs)=G (c.finish fullV) cs:=by kernel_rfl
end
def Zn(Z:Bl)(w:World):Bl:=fun x=>Z x∨x=w.heap.size+2∨x=w.heap.size+4∨x=w.heap.size+5
section
variable {Q:Value→World→Prop}{w:World}{A:Option Addr}{L cp n:Nat}{pv:Nat→Value}{pg:Nat→List UInt8}{Z:Bl}{c:Frame}{cs:List Frame}
theorem newest_wins(h:Args w A L pv pg (fun b=>b<w.heap.size∧¬ Z b) Z)(hn1:1≤n)(hn:n≤8)(hL:L≤4096)(hT:TyOk w Z)
 (hk:∀ l D cap w',NewR pg L w Z (Zn Z w) l D cap w'→Wins Tryz.prog Q (Zn Z w) (G (c.finish (.tuple #[.slice D l.length cap,.nilIface])) cs) w'):Wins Tryz.prog Q Z (nw0 A L cp n c cs) w:=by
 have zl:∀ x,Zn Z w x→x<w.heap.size+6:=fun x hx=>by
  rcases hx with h1|h1|h1|h1
  ·have:=h.zlt x h1;omega
  all_goals omega
 refine newest_loop (Z':=Zn Z w) h hn1 hn hL (fun b hb=>.inl hb) (.inr (.inl rfl)) (.inr (.inr (.inl rfl))) (.inr (.inr (.inr rfl))) fun es clk R w' f hR hR2 hb he hst hold hsz hso=>?_;refine newest_tail (W:=w) hb he hst hR hR2 hL hold hsz hso (fun b hb=>.inl hb) zl (fun hz=>?_) (fun hz=>?_) hT hk
 ·rcases hz with h1|h1|h1|h1
  ·have:=h.zlt _ h1;omega
  all_goals omega
 ·have:=hT.1;rcases hz with h1|h1|h1|h1
  ·exact hT.2.1 h1
  all_goals omega
theorem newest_full(hn1:1≤n)(hn:n≤8)(hL:4096<L)(hk:Wins Tryz.prog Q Z (G (c.finish fullV) cs) w):Wins Tryz.prog Q Z (nw0 A L cp n c cs) w:=by
 refine az 20 (nw0_calm A L cp n c cs) ?_;rw[nw0_it,show decide ((n:Int)<1)=false from decide_eq_false (by omega)];refine az 3 (nwA_calm A L cp n c cs) ?_;show Wins Tryz.prog Q Z (it Tryz.prog 3 (nwA A L cp n c cs)) w;rw[nwA_it,show decide ((8:Int)<(n:Int))=false from decide_eq_false (by omega)];refine az 10 (nwB_calm A L cp n c cs) ?_;show Wins Tryz.prog Q Z (it Tryz.prog 10 (nwB A L cp n c cs)) w;rw[nwB_it,show decide ((4096:Int)<(L:Int))=true from decide_eq_true (by omega)];refine az 25 (nwC'_calm A L cp n c cs) ?_;show Wins Tryz.prog Q Z (it Tryz.prog 25 (nwC' A L cp n c cs)) w;rw[nwC'_it];exact hk
end
end Ph
namespace Cl
open Conc Co Ph RowKit
theorem WR.take{E:Env}{f:Fm}{w w':World}(h:WR E f w w'){g:Nat}{o o':Obj}(hg:w'.heap[g]? = some o')(hn:∀ r,f r≠some g)(hro:¬ E.ro g)(r:OR E.ok (f.add w.heap.size g) o o'):WR E (f.add w.heap.size g) {w with heap:=w.heap.push o} w':=by
 have hle:f.le (f.add w.heap.size g):=fun b x e=>by
  unfold Fm.add;rw[if_neg (by have:=(h.lt e).1;omega)];exact e
 refine⟨h.tape,h.drawn,fun r r' e=>?_,fun r s x er es=>?_,fun r r' oo e hr ho=>?_,h.fresh,fun r r' e=>?_,fun r hr=>?_,by have:=h.big;simp;omega⟩
 ·simp only[Array.getElem?_push];unfold Fm.add at e;by_cases eb:r=w.heap.size
  ·rw[if_pos eb]at e;cases e;rw[if_pos eb];exact⟨_,_,rfl,hg,‹_›⟩
  ·rw[if_neg eb]at e;obtain⟨x,x',h1,h2,rr⟩:=h.obj r r' e;have:=h.lt e;rw[if_neg eb];exact⟨x,x',h1,h2,rr.mono hle⟩
 ·unfold Fm.add at er es;by_cases e1:r=w.heap.size
  ·rw[if_pos e1]at er;cases er;by_cases e2:s=w.heap.size
   ·rw[e1,e2]
   ·rw[if_neg e2]at es;exact absurd es (hn s)
  ·rw[if_neg e1]at er;by_cases e2:s=w.heap.size
   ·rw[if_pos e2]at es;cases es;exact absurd er (hn r)
   ·rw[if_neg e2]at es;exact h.inj r s x er es
 ·simp only[Array.getElem?_push]at ho;unfold Fm.add at e;by_cases eb:r=w.heap.size
  ·rw[if_pos eb]at e;cases e;exact absurd hr hro
  ·rw[if_neg eb]at e ho;exact h.ice r r' oo e hr ho
 ·unfold Fm.add at e;by_cases eb:r=w.heap.size
  ·rw[if_pos eb]at e;have:=h.big;omega
  ·rw[if_neg eb]at e;exact h.glob r r' e
 ·have:=h.big;simp only[Array.getElem?_push];rw[if_neg (by omega)];exact h.gl r hr
def LArgs(w0:World)(A:Option Addr)(L:Nat)(pg:Nat→List UInt8):Prop:=∀ k,k<L→∃ b off pv,A=some ⟨b,off,none⟩∧w0.cell? ⟨b,off+k,none⟩=some pv∧PgAt w0 pv (pg k)
theorem pgAt_re{w0:World}{v:Value}{l:List UInt8}(h:PgAt w0 v l)(τ:Tp)(d:Nat):PgAt (Co.re w0 τ d) v l:=by
 cases h with
 |nil=>exact .nil
 |zero a=>exact .zero a
 |row hn h0 hc hm hb hl=>exact .row hn h0 hc hm hb hl
theorem LArgs.re{w0:World}{A:Option Addr}{L:Nat}{pg:Nat→List UInt8}(h:LArgs w0 A L pg)(τ:Tp)(d:Nat):LArgs (Co.re w0 τ d) A L pg:=fun k hk=>by
 obtain⟨b,off,pv,e1,e2,e3⟩:=h k hk;exact⟨b,off,pv,e1,e2,pgAt_re e3 τ d⟩
section
variable {Q:Value→World→Prop}{E:Env}{K Z:Nat→Prop}{W:World}{cs:List Frame}{fn:FuncId}{t:Array Value}{todo k:List Item}{m:FrameMode}{w0 w:World}{f:Fm}
structure LawOk(E:Env)(K:Nat→Prop)(W:World):Prop where
 G:E.G=Tryz.prog.globals.size
 low:∀ x,x≤Tryz.prog.globals.size→K x
 ty:∀ E:Ev,∀o,W.heap[Tryz.prog.globals.size]? = some o→CO E o
theorem rng(hl:LawOk E K W)(hw:WR E f w0 w)(hs:Side E K W Z f w){r x:Nat}(h:f r=some x):x<w.heap.size∧¬ Z x:=by
 refine⟨(hw.lt h).2,?_⟩;by_cases hro:E.ro x
 ·exact(hs.ro x hro).2
 ·exact(hs.own x ⟨⟨r,h⟩,hro⟩).2
theorem pg_of(hl:LawOk E K W)(hw:WR E f w0 w)(hs:Side E K W Z f w){pv pv':Value}{l:List UInt8}(hp:PgAt w0 pv l)(hv:VR E.ok f pv pv'):PgAt w pv' l∧∀ x,blkOf pv' x→x<w.heap.size∧¬ Z x:=by
 cases hp with
 |nil =>
  cases hv;exact⟨.nil,fun x hx=>hx.elim⟩
 |zero a =>
  cases hv with
  |slice h=>exact⟨.zero _,fun x hx=>absurd hx.2 (Nat.lt_irrefl _)⟩
  |slice0 a a'=>exact⟨.zero _,fun x hx=>absurd hx.2 (Nat.lt_irrefl _)⟩
 |row hn h0 hc hm hb hlx =>
  cases hv with
  |slice h =>
   obtain⟨h1,h2⟩:=rng hl hw hs h;obtain⟨o,o',k1,k2,k3⟩:=hw.obj _ _ h;rw[hb]at k1;cases k1
   cases k3 with
   |cells ha hf =>
    refine⟨.row hn h0 hc hm k2 fun i x hx=>?_,fun x hx=>by obtain⟨rfl,-⟩:=hx;exact⟨h1,h2⟩⟩;obtain⟨u',q1,q2⟩:=ha.get (hlx i x hx);cases q2;exact q1
  |slice0 a a'=>exact absurd h0 (Nat.lt_irrefl _)
theorem args_of(hl:LawOk E K W)(hw:WR E f w0 w)(hs:Side E K W Z f w){A:Option Addr}{L cp:Nat}{pg:Nat→List UInt8}{x':Value}(hv:VR E.ok f (.slice A L cp) x')(ha:LArgs w0 A L pg) :
 ∃A' pv,x'=.slice A' L cp∧Args w A' L pv pg (fun b=>b<w.heap.size∧¬ Z b) Z:=by
 have rest:∀ A' (pv:Nat→Value),(∀k,k<L→∃ b off,A'=some ⟨b,off,none⟩∧(b<w.heap.size∧¬ Z b)∧w.cell? ⟨b,off+k,none⟩=some (pv k)∧PgAt w (pv k) (pg k)∧∀ x,blkOf (pv k) x→(x<w.heap.size∧¬ Z x))→Args w A' L pv pg (fun b=>b<w.heap.size∧¬ Z b) Z :=
  fun A' pv h=>⟨h,fun b hb=>hb.1,fun b hb=>hb.2,hs.zed⟩
 rcases Nat.eq_zero_or_pos L with h0|h0
 ·subst h0
  cases hv with
  |sliceN=>exact⟨none,fun _=>undef,rfl,rest _ _ fun k hk=>by omega⟩
  |slice h=>exact⟨_,fun _=>undef,rfl,rest _ _ fun k hk=>by omega⟩
  |slice0 a a'=>exact⟨_,fun _=>undef,rfl,rest _ _ fun k hk=>by omega⟩
 ·obtain⟨b,off,pv0,rfl,-,-⟩:=ha 0 h0
  cases hv with
  |@slice _ b' _ _ _ _ h =>
   refine⟨_,fun k=>(w.cell? ⟨b',off+k,none⟩).getD undef,rfl,rest _ _ fun k hk=>?_⟩;obtain⟨b2,off2,pv,e1,e2,e3⟩:=ha k hk;cases e1;obtain⟨v',q1,q2⟩:=hw.load h e2;obtain⟨h1,h2⟩:=rng hl hw hs h;rw[q1];obtain⟨p1,p2⟩:=pg_of hl hw hs e3 q2;exact⟨b',off,rfl,⟨h1,h2⟩,q1,p1,p2⟩
  |slice0 a a'=>omega
theorem ty_of(hl:LawOk E K W)(hs:Side E K W Z f w)(hKZ:∀ x,K x→¬ Z x):TyOk w Z :=
 ⟨hs.low _ (hl.low _ (Nat.le_refl _)),hKZ _ (hl.low _ (Nat.le_refl _)),fun E o ho=>hl.ty E o (by rw[←hs.old _ (hl.low _ (Nat.le_refl _))];exact ho)⟩
theorem row_take{e:TypeId}{size m cap:Nat}{D:Option Addr}{xs:List Value}(hw:WR E f (Co.re w0 w.tape w.drawn) w)(hr:RowsC w e size D m cap xs)(hx:∀ v∈xs,∃k x,v=.int k x)(hlen:xs.length=m*size)(hn:∀ a,D=some a→(∀r,f r≠some a.block)∧¬ E.ro a.block) :
 ∃(g:Fm) (D0:Option Addr) (o:Obj),f.le g∧VR E.ok g (.slice D0 m cap) (.slice D m cap)∧WR E g (Co.re {w0 with heap:=w0.heap.push o} w.tape w.drawn) w∧({w0 with heap:=w0.heap.push o}:World).ownsRow w0.heap.size e size (.slice D0 m cap) m xs∧(∀x,ownOf E g x→ownOf E f x∨∃a,D=some a∧x=a.block):=by
 rcases hr with⟨rfl,rfl,rfl,rfl⟩|⟨b,cur,fz,rfl,h1,h2,h3,h4,h5,h6⟩
 ·refine⟨f,none,.cells #[] 0 (0,0),f.le_refl,.sliceN _ _,?_,⟨by simp,.inl ⟨rfl,rfl⟩⟩,fun x hx=>.inl hx⟩
  refine⟨rfl,rfl,fun r r' er=>?_,hw.inj,fun r r' oo er hr ho=>?_,hw.fresh,hw.glob,fun r hr=>?_,by have:=hw.big;simp only[dw,Array.size_push]at *;omega⟩
  ·obtain⟨x,x',k1,k2,k3⟩:=hw.obj r r' er;refine⟨x,x',?_,k2,k3⟩;have:=(hw.lt er).1;simp only[dw,Array.getElem?_push]at this⊢;rw[if_neg (by omega)];exact k1
  ·refine hw.ice r r' oo er hr ?_;have:=(hw.lt er).1;simp only[dw,Array.getElem?_push]at this ho⊢;rwa[if_neg (by omega)]at ho
  ·have:=hw.big;simp only[dw,Array.getElem?_push]at this⊢;rw[if_neg (by omega)];exact hw.gl r hr
 ·obtain⟨q1,q2⟩:=hn _ rfl
  have hle:f.le (f.add w0.heap.size b):=fun b x e=>by
   unfold Fm.add;rw[if_neg (by have:=(hw.lt e).1;simp only[dw]at this;omega)];exact e
  obtain⟨cr,hcr,hcell⟩:=row_ex (ok:=E.ok) (f:=f.add w0.heap.size b) cur (fun i=>xs[i]?) (fun i u u' a1 a2=>by
   have h7:(cur.toList.take (m*size))[i]? = some u:=by rw[h6];exact a1
   rw[List.getElem?_take]at h7;split at h7
   ·have h8:cur[i]? = some u:=by simpa using h7
    rw[h8]at a2;cases a2;obtain⟨k,x,rfl⟩:=hx u (List.mem_of_getElem? a1);exact .int _ _
   ·cases h7)
  have hob:=WR.take (w:=Co.re w0 w.tape w.drawn) hw h1 q1 q2 (o:=.cells cr e (0,0)) (.cells (by exact hcr) fun o a1 a2=>absurd a2 (h2 o a1))
  have hfb:(f.add w0.heap.size b) w0.heap.size=some b:=by unfold Fm.add;exact if_pos rfl
  refine⟨f.add w0.heap.size b,some ⟨w0.heap.size,0,none⟩,.cells cr e (0,0),hle,.slice hfb,hob,⟨hlen,.inr ⟨w0.heap.size,cap,cr,rfl,Nat.le_refl _,by simp,h3,h4,by rw[hcr.size,h5],?_⟩⟩,fun x hx=>?_⟩
  ·have hms:m*size≤cap*size:=Nat.mul_le_mul_right _ h3;refine List.ext_getElem? fun i=>?_;rw[List.getElem?_take];by_cases hi:i<m*size
   ·rw[if_pos hi];have hxi:xs[i]? = some xs[i]:=List.getElem?_eq_getElem (by omega);rw[hxi];simpa using hcell i _ hxi (by omega)
   ·rw[if_neg hi,List.getElem?_eq_none (by omega)]
  ·obtain⟨⟨r,er⟩,h7⟩:=hx;unfold Fm.add at er;split at er
   ·cases er;exact .inr ⟨_,rfl,rfl⟩
   ·exact .inl ⟨⟨r,er⟩,h7⟩
theorem winsR_newest{ops:Array Oper}{i:Nat}{rest:List Nat}{o:Oper}{x y:Operand}{A:Option Addr}{L cp n:Nat}{pg:Nat→List UInt8}(hS:Sound Tryz.prog E)(hl:LawOk E K W)(hKZ:∀ x,K x→¬ Z x)
 (ho:ops[i]? = some o) (hw:∀ t',Region.wanted o (yielded ops t')=true) (hxo:Co.OkX E x) (hyo:Co.OkX E y)
 (hr:∀ t' w,(execOp (Act.eval ⟨t',[]⟩) o).run Tryz.prog w=.ok (.enter 14 #[Act.eval ⟨t',[]⟩ x,Act.eval ⟨t',[]⟩ y]) w) (hev:∀ t' w,(execOp (Act.eval ⟨t',[]⟩) o).events Tryz.prog w #[]=#[])
 (hx:Act.eval ⟨t,[]⟩ x=.slice A L cp) (hy:Act.eval ⟨t,[]⟩ y=.int .i64 n) (hn1:1≤n) (hn:n≤8) (hpg:LArgs w0 A L pg)
 (hk:∀ Z' l D cap u,L≤4096→NewI pg L l→(∀x,K x→¬ Z' x)→Below w0.heap.size w0 u→u.ownsRow w0.heap.size 60 4 (.slice D l.length cap) l.length (flatF (fun i=>l.getD i zFnd) l.length) →
  WinsR Tryz.prog Q E K W Z' cs fn (Act.put ⟨t,[]⟩ o.dst (.tuple #[.slice D l.length cap,.nilIface])).tmps (.inRegion ops rest::k) .run u)
 (hfull:4096<L→WinsR Tryz.prog Q E K W Z cs fn (Act.put ⟨t,[]⟩ o.dst fullV).tmps (.inRegion ops rest::k) .run w0):WinsR Tryz.prog Q E K W Z cs fn t (.inRegion ops (i::rest)::k) .run w0:=by
 intro f t' w ha hwr hs;have he:=ev_rel (fr:=(base fn).at ⟨t,[]⟩ (.inRegion ops (i::rest)::k)) (fr':=(base fn).at ⟨t',[]⟩ (.inRegion ops (i::rest)::k)) ha;rw[Frame.eval_at',Frame.eval_at']at he;have h1:=he x hxo;have h2:=he y hyo;rw[hx]at h1;rw[hy]at h2
 have e2:Act.eval ⟨t',[]⟩ y=.int .i64 n:=by
  generalize Act.eval ⟨t',[]⟩ y=y' at h2;cases h2;rfl
 obtain⟨A',pv,e1,hargs⟩:=args_of hl hwr hs h1 (hpg.re w.tape w.drawn);refine dB rfl fun τ d=>⟨nw0 A' L cp n (Co.fr fn t' (.inRegion ops (i::rest)::k) .run) cs,w,d,#[],?_,Nat.le_refl _,fun e he=>by simp at he,?_⟩
 ·have hst:=stepG_enter (P:=Tryz.prog) (main:=true) (b:=base fn) (a:=⟨t',[]⟩) (k:=k) (cs:=cs) (rest:=rest) ho (hw t') (by simp[base]) (hr t' (Co.re w τ d));rw[e1,e2]at hst
  have hls:listed Tryz.prog (base fn).fn ⟨t',[]⟩ o (Co.re w τ d)=#[]:=by
   unfold listed;rw[hev];rfl
  rw[hls]at hst;exact hst
 ·have hfin:∀ v,(Co.fr fn t' (.inRegion ops (i::rest)::k) .run).finish v=Co.fr fn (Act.put ⟨t',[]⟩ o.dst v).tmps (.inRegion ops rest::k) .run:=fun v=>by
   have:=dW (y:=⟨fn,t',.inRegion ops (i::rest)::k,false⟩) (v:=v) rfl;rw[ho]at this;exact this
  rcases Nat.lt_or_ge 4096 L with hL|hL
  ·refine newest_full hn1 hn hL ?_;rw[hfin];refine hfull hL f _ w (fG ha ?_ _) hwr hs;refine AR.tuple (AR.flat fun u hu=>?_);simp only[List.mem_toArray,List.mem_cons,List.not_mem_nil,or_false]at hu;rcases hu with rfl|rfl
   ·exact fun ok f=>.sliceN _ _
   ·exact fun ok f=>.iface (.int _ _)
  ·refine newest_wins hargs hn1 hn hL (ty_of hl hs hKZ) fun l D cap w' hR=>?_;obtain⟨r1,r2,r3,r4,r5,r6,r7⟩:=hR
   have hsz:w.heap.size≤w'.heap.size:=by
    have:=r5 (w.heap.size+5) (.inr (.inr (.inr rfl)));omega
   have hrel:WR E f (Co.re w0 w'.tape w'.drawn) w':=hwr.rely ⟨hsz,fun y hy hy2=>r4 y hy2 (by
    rcases hy with h|h
    ·exact(hs.own y h).2
    ·exact(hs.ro y h).2)⟩
   have rg:∀ {r y},f r=some y→y<w.heap.size:=fun h=>(hwr.lt h).2;obtain⟨g,D0,ob,g1,g2,g3,g4,g5⟩:=row_take hrel r2 (nZ _ _) (kL _ _) (fun a hd=>⟨fun r hr=>by have:=rg hr;have:=(r3 a hd).1;omega,fun hro=>by have:=(hs.ro _ hro).1;have:=(r3 a hd).1;omega⟩);rw[hfin]
   have hKn:∀ x,K x→¬ Zn Z w x:=fun y hy hz=>by
    have:=hs.low y hy;rcases hz with h|h|h|h
    ·exact hKZ y hy h
    all_goals omega
   refine hk (Zn Z w) l D0 cap _ hL r1 hKn (Below.alloc (Below.refl _ _) (Nat.le_refl _) ob) g4 g _ w' (fG (ha.mono g1) ?_ _) g3 ⟨fun y hy=>?_,fun y hy=>?_,fun y hy=>?_,r5,fun y hy=>?_,Nat.le_trans hs.size hsz,r6.trans hs.still.1,r7.trans hs.still.2⟩
   ·refine AR.tuple ?_;exact((AR.empty.push g2).push .nilIface)
   ·rw[r4 y (hs.low y hy) (hKZ y hy)];exact hs.old y hy
   ·exact Nat.lt_of_lt_of_le (hs.low y hy) hsz
   ·rcases g5 y hy with h|⟨a,hd,rfl⟩
    ·refine⟨(hs.own y h).1,fun hz=>?_⟩;obtain⟨⟨r,er⟩,-⟩:=h;have:=rg er;rcases hz with h|h|h|h
     ·exact(rng hl hwr hs er).2 h
     all_goals omega
    ·obtain⟨b1,b2⟩:=r3 a hd
     exact⟨fun hk'=>by have:=hs.low _ hk';omega,b2⟩
   ·refine⟨Nat.lt_of_lt_of_le (hs.ro y hy).1 hsz,fun hz=>?_⟩;have:=(hs.ro y hy).1;rcases hz with h|h|h|h
    ·exact(hs.ro y hy).2 h
    all_goals omega
end
end Cl
namespace Cl
open Conc Co Ph RowKit
section
variable {P:Program}{Q:Value→World→Prop}{E:Env}{K Z:Nat→Prop}{W:World}{cs:List Frame}{fn:FuncId}{t:Array Value}{todo k:List Item}{m:FrameMode}{w0 w:World}{f:Fm}
theorem cu{id:Nat}{ops:Array Oper}(hk:WinsR P Q E K W Z cs fn t (.inRegion ops (List.range ops.size)::k) .run w0):WinsR P Q E K W Z cs fn t (.code (.region id ops false)::k) .run w0 :=
 dA (fun t' w=>by simp[G,stepG,stepG.exec,Co.fr]) hk
theorem aI(hS:Sound P E){ops:Array Oper}{i:Nat}{rest:List Nat}{o:Oper}{x:Operand}{v:Value}{d:Nat}(ho:ops[i]? = some o)(hg:o.guard=none)(hop:o.op=.move x∨o.op=.assign x)(hd:o.dst=some d)(hx:Co.OkX E x)(hv:Act.eval ⟨t,[]⟩ x=v)
 (hk:WinsR P Q E K W Z cs fn (t.setIfInBounds d v) (.inRegion ops rest::k) .run w0):WinsR P Q E K W Z cs fn t (.inRegion ops (i::rest)::k) .run w0:=by
 refine kJ hS (v:=v) ho (fun t'=>by simp[Region.wanted,hg]) ?_ (fun τ d=>?_) ?_
 ·obtain⟨dst,op,type,pos,after,guard⟩:=o
  dsimp only at hop hg
  rcases hop with rfl|rfl<;>exact hx
 ·unfold execOp;rcases hop with h|h<;>simp only[h,Sem.run_pure,hv]
 ·rw[hd];exact hk
theorem bI(hS:Sound P E){ops:Array Oper}{i:Nat}{rest:List Nat}{o:Oper}{x:Operand}{v:Value}{vs:Array Value}{d j:Nat}(ho:ops[i]? = some o)(hg:o.guard=none)(hop:o.op=.extract x j)(hd:o.dst=some d)(hok:Co.OkOp P E o.op)(hx:Act.eval ⟨t,[]⟩ x=.tuple vs)(hv:vs[j]? = some v)
 (hk:WinsR P Q E K W Z cs fn (t.setIfInBounds d v) (.inRegion ops rest::k) .run w0):WinsR P Q E K W Z cs fn t (.inRegion ops (i::rest)::k) .run w0:=by
 refine kJ hS (v:=v) ho (fun t'=>by simp[Region.wanted,hg]) hok (fun τ d=>?_) ?_
 ·unfold execOp;simp[hop,hx,hv,Instr.extract]
 ·rw[hd];exact hk
end
end Cl
namespace Cl
open Conc Co Ph RowKit
def Hands(o:Oper)(d:Nat)(x:Operand):Prop:=o.guard=none∧(o.op=.move x∨o.op=.assign x)∧o.dst=some d
def Parts(o:Oper)(d s j:Nat):Prop:=o.guard=none∧o.op=.extract (.tmp s) j∧o.dst=some d
def jB(o:Oper)(j:FuncId)(d:Nat)(x y:Operand):Prop :=
 o.dst=some d∧o.guard=none∧(∀t' w,(execOp (Act.eval ⟨t',[]⟩) o).run Tryz.prog w=.ok (.enter j #[Act.eval ⟨t',[]⟩ x,Act.eval ⟨t',[]⟩ y]) w)∧(∀t' w,(execOp (Act.eval ⟨t',[]⟩) o).events Tryz.prog w #[]=#[])
theorem aQ{t:Array Value}{s:Nat}{v:Value}(h:t[s]? = some v):Act.eval ⟨t,[]⟩ (.tmp s)=v:=by
 show t.getD s undef=v;rw[Array.getD_eq_getD_getElem?,h];rfl
theorem au{t:Array Value}{s:Nat}{v:Value}(h:s<t.size):(t.setIfInBounds s v)[s]? = some v:=by simp[h]
theorem ak{t:Array Value}{s d:Nat}{v:Value}(h:d≠s):(t.setIfInBounds d v)[s]? = t[s]?:=by simp[h]
structure Left(t t':Array Value)(S:List Nat)(d1 d2:Nat)(a b:Value):Prop where
 size:t'.size=t.size
 keep:∀ s,s∉S→t'[s]? = t[s]?
 one:t'[d1]? = some a
 two:t'[d2]? = some b
section
variable {Q:Value→World→Prop}{E:Env}{K Z:Nat→Prop}{W:World}{cs:List Frame}{fn:FuncId}{t:Array Value}{todo k:List Item}{m:FrameMode}{w0 w:World}{f:Fm}
theorem winsR_parts(hS:Sound Tryz.prog E){ops:Array Oper}{o3 o4 o5 o6 o7:Oper}{s3 s4 e1 e2 d1 d2:Nat}{a b:Value}(h3:ops[3]? = some o3)(h4:ops[4]? = some o4)(h5:ops[5]? = some o5)(h6:ops[6]? = some o6)(h7:ops[7]? = some o7)
 (g3:Hands o3 s4 (.tmp s3)) (g4:Parts o4 e1 s4 0) (g5:Parts o5 e2 s4 1) (g6:Hands o6 d1 (.tmp e1)) (g7:Hands o7 d2 (.tmp e2)) (hnd:[s3,s4,e1,e2,d1,d2].Nodup) (hlt:∀ s∈[s3,s4,e1,e2,d1,d2],s<t.size)
 (hk:∀ t',Left t t' [s3,s4,e1,e2,d1,d2] d1 d2 a b→WinsR Tryz.prog Q E K W Z cs fn t' k .run w0):WinsR Tryz.prog Q E K W Z cs fn (t.setIfInBounds s3 (.tuple #[a,b])) (.inRegion ops [3,4,5,6,7]::k) .run w0:=by
 simp only[List.nodup_cons,List.mem_cons,List.not_mem_nil,or_false,not_or,List.nodup_nil,and_true,not_false_eq_true]at hnd;obtain⟨⟨n1,n2,n3,n4,n5⟩,⟨n6,n7,n8,n9⟩,⟨n10,n11,n12⟩,⟨n13,n14⟩,n15⟩:=hnd;simp only[List.mem_cons,List.not_mem_nil,or_false,forall_eq_or_imp,forall_eq]at hlt;obtain⟨l1,l2,l3,l4,l5,l6⟩:=hlt;refine aI hS (v:=.tuple #[a,b]) h3 g3.1 g3.2.1 g3.2.2 trivial (aQ (au l1)) ?_;refine bI hS (v:=a) (vs:=#[a,b]) h4 g4.1 g4.2.1 g4.2.2 (by rw[g4.2.1];trivial) (aQ (au (by simpa using l2))) rfl ?_;refine bI hS (v:=b) (vs:=#[a,b]) h5 g5.1 g5.2.1 g5.2.2 (by rw[g5.2.1];trivial) (aQ (by rw[ak (Ne.symm n6)];exact au (by simpa using l2))) rfl ?_;refine aI hS (v:=a) h6 g6.1 g6.2.1 g6.2.2 trivial (aQ (by rw[ak (Ne.symm n10)];exact au (by simpa using l3))) ?_;refine aI hS (v:=b) h7 g7.1 g7.2.1 g7.2.2 trivial (aQ (by rw[ak (Ne.symm n13)];exact au (by simpa using l4))) ?_;refine bf (hk _ ⟨by simp,fun s hs=>?_,?_,au (by simpa using l6)⟩)
 ·simp only[List.mem_cons,List.not_mem_nil,or_false,not_or]at hs;obtain⟨q1,q2,q3,q4,q5,q6⟩:=hs;rw[ak (Ne.symm q6),ak (Ne.symm q5),ak (Ne.symm q4),ak (Ne.symm q3),ak (Ne.symm q2),ak (Ne.symm q1)]
 ·rw[ak (Ne.symm n15)];exact au (by simpa using l5)
theorem winsR_newestZ(hS:Sound Tryz.prog E)(hl:LawOk E K W)(hKZ:∀ x,K x→¬ Z x){id:Nat}{ops:Array Oper}{o0 o1 o2 o3 o4 o5 o6 o7:Oper}{p s1 s2 s3 s4 e1 e2 d1 d2 nw:Nat}{z:Int}(hz:z=(nw:Int))(hn1:1≤nw)(hn8:nw≤8)(hsz:ops.size=8)(h0:ops[0]? = some o0)(h1:ops[1]? = some o1)(h2:ops[2]? = some o2)(h3:ops[3]? = some o3)(h4:ops[4]? = some o4)(h5:ops[5]? = some o5)(h6:ops[6]? = some o6)(h7:ops[7]? = some o7)
 (g0:Hands o0 s1 (.tmp p)) (g1:o1.op=.buildSlice 43 1 #[(0,.tmp s1)]∧o1.guard=none∧o1.dst=some s2) (ok1:Co.OkOp Tryz.prog E o1.op) (r1:∀ A n c w,(execOp (fun _=>.slice A n c) o1).run Tryz.prog w=.ok (.value (.slice (some ⟨w.heap.size,0,none⟩) 1 1)) {w with heap:=w.heap.push (.cells #[.slice A n c] 25 (0,0))})
 (g2:jB o2 14 s3 (.tmp s2) (.const (.int .i64 z))) (g3:Hands o3 s4 (.tmp s3)) (g4:Parts o4 e1 s4 0) (g5:Parts o5 e2 s4 1) (g6:Hands o6 d1 (.tmp e1)) (g7:Hands o7 d2 (.tmp e2))
 (hnd:[s3,s4,e1,e2,d1,d2].Nodup) (hl12:s1<t.size∧s2<t.size) (hlt:∀ s∈[s3,s4,e1,e2,d1,d2],s<t.size)
 {A:Option Addr} {n c:Nat} {pk:List UInt8} (hx:t[p]? = some (.slice A n c)) (hpk:PgAt w0 (.slice A n c) pk)
 (hk:∀ Z' l D cap u t',NewI (fun _=>pk) 1 l→(∀x,K x→¬ Z' x)→Below w0.heap.size w0 u→u.ownsRow w0.heap.size 60 4 (.slice D l.length cap) l.length (flatF (fun i=>l.getD i zFnd) l.length)→Left t t' [s1,s2,s3,s4,e1,e2,d1,d2] d1 d2 (.slice D l.length cap) .nilIface→WinsR Tryz.prog Q E K W Z' cs fn t' k .run u):WinsR Tryz.prog Q E K W Z cs fn t (.code (.region id ops false)::k) .run w0:=by
 refine cu ?_;rw[hsz,show List.range 8=[0,1,2,3,4,5,6,7] from rfl];refine aI hS h0 g0.1 g0.2.1 g0.2.2 trivial (aQ hx) ?_;obtain⟨u0,hu0⟩:∃ u0:World,u0={w0 with heap:=w0.heap.push (.cells #[.slice A n c] 25 (0,0))}:=⟨_,rfl⟩
 have hb0:Below w0.heap.size w0 u0:=by rw[hu0];exact Below.alloc (Below.refl _ _) (Nat.le_refl _) _
 refine winsR_op hS h1 (fun t'=>by simp[Region.wanted,g1.2.1]) ok1 fun τ d=>⟨.slice (some ⟨w0.heap.size,0,none⟩) 1 1,Co.re u0 τ d,?_,?_⟩
 ·have e:execOp (Act.eval ⟨t.setIfInBounds s1 (.slice A n c),[]⟩) o1=execOp (fun _=>.slice A n c) o1:=by
   have hv:Act.eval ⟨t.setIfInBounds s1 (.slice A n c),[]⟩ (.tmp s1)=.slice A n c:=aQ (au hl12.1);unfold execOp;simp only[g1.1,List.map_toArray,List.map_cons,List.map_nil,hv]
  rw[e,r1,hu0];rfl
 ·rw[g1.2.2]
  have left:∀ {t' a b},Left ((t.setIfInBounds s1 (.slice A n c)).setIfInBounds s2 (.slice (some ⟨w0.heap.size,0,none⟩) 1 1)) t' [s3,s4,e1,e2,d1,d2] d1 d2 a b→Left t t' [s1,s2,s3,s4,e1,e2,d1,d2] d1 d2 a b:=fun {t' a b} h=>⟨by rw[h.size];simp,fun s hs=>by
   have hs':s≠s1∧s≠s2∧s∉[s3,s4,e1,e2,d1,d2]:=⟨fun e=>hs (by rw[e];exact List.mem_cons_self),fun e=>hs (by rw[e];exact List.mem_cons_of_mem _ List.mem_cons_self),fun hm=>hs (List.mem_cons_of_mem _ (List.mem_cons_of_mem _ hm))⟩
   rw[h.keep s hs'.2.2,ak (Ne.symm hs'.2.1),ak (Ne.symm hs'.1)],h.one,h.two⟩
  have hpk':PgAt u0 (.slice A n c) pk:=hpk.mono fun x hx=>by
   refine hb0.block x ?_
   cases hpk with
   |nil=>exact hx.elim
   |zero a=>exact absurd hx.2 (Nat.lt_irrefl _)
   |row a1 a2 a3 a4 hb a6 =>
    obtain⟨rfl,-⟩:=hx;exact(Array.getElem?_eq_some_iff.1 hb).1
  have hcell:u0.cell? ⟨w0.heap.size,0+0,none⟩=some (.slice A n c):=by
   rw[hu0];unfold World.cell?;simp
  have hLA:LArgs (Co.re u0 τ d) (some ⟨w0.heap.size,0,none⟩) 1 fun _=>pk:=fun k hk=>by
   obtain rfl:k=0:=by omega
   exact⟨w0.heap.size,0,_,rfl,hcell,pgAt_re hpk' τ d⟩
  refine winsR_newest (x:=.tmp s2) (y:=.const (.int .i64 z)) (w0:=Co.re u0 τ d) hS hl hKZ h2 (fun t'=>by simp[Region.wanted,g2.2.1]) trivial (fun ok f=>.int _ _) g2.2.2.1 g2.2.2.2 (A:=some ⟨w0.heap.size,0,none⟩) (L:=1) (cp:=1) (n:=nw) (pg:=fun _=>pk) (aQ (au (by simpa using hl12.2))) (by rw[hz];rfl) hn1 hn8 hLA (fun Z' l D cap u hL hN hKZ' hB hO=>?_) fun hL=>by omega
  rw[g2.1];have hB':Below u0.heap.size u0 (Co.re u u0.tape u0.drawn):=⟨hB.os,rfl,hB.output,hB.size,hB.block⟩;have hb:Below w0.heap.size w0 (Co.re u w0.tape w0.drawn):=⟨hB.os.trans hb0.os,rfl,hB.output.trans hb0.output,Nat.le_trans hb0.size hB.size,fun k hk=>(hB.block k (Nat.lt_of_lt_of_le hk hb0.size)).trans (hb0.block k hk)⟩;have hO':(Co.re u w0.tape w0.drawn).ownsRow w0.heap.size 60 4 (.slice D l.length cap) l.length (flatF (fun i=>l.getD i zFnd) l.length):=own_base (base:=u0.heap.size) hO hb0.size;exact winsR_parts hS h3 h4 h5 h6 h7 g3 g4 g5 g6 g7 hnd (by show ∀s∈[s3,s4,e1,e2,d1,d2],s<((t.setIfInBounds s1 (.slice A n c)).setIfInBounds s2 (.slice (some ⟨w0.heap.size,0,none⟩) 1 1)).size;simpa using hlt) fun t' hL'=>hk Z' l D cap (Co.re u w0.tape w0.drawn) t' hN hKZ' hb hO' (left hL')
end
end Cl
