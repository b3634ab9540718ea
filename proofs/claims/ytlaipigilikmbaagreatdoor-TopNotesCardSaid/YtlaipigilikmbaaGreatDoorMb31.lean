/- Texts of this seat,put together: RowI,SlotPlain,SlotW. -/
import Derived.Test.YtlaipigilikmbaaGreatDoorMb13
import Derived.Maps.AppendAt
import Derived.Test.YtlaipigilikmbaaGreatDoorMb12
import Derived.Laws.BitsAllLaws
namespace Go.Proofs.YtlaipigilikmbaaGreatDoor
noncomputable section
set_option linter.unusedVariables false
set_option linter.unusedSimpArgs false
section
open RowKit
def Nums(xs:List Value):Prop:=∀ u∈xs,∃k n,u=.int k n
theorem Nums.app{a b:List Value}(h:Nums a)(h2:Nums b):Nums (a++b):=fun u hu=>(List.mem_append.1 hu).elim (h u) (h2 u)
theorem nums_u8v(l:List UInt8):Nums (u8v l):=fun v hv=>by
 simp only[u8v,List.mem_map]at hv;obtain⟨x,-,rfl⟩:=hv;exact⟨_,_,rfl⟩
theorem nums_zero(k:IntKind)(n:Int)(m:Nat):Nums (Builtin.zeroCells (Value.int k n).cells m).toList:=fun u hu=>by
 have e:(Value.int k n).cells=#[.int k n]:=rfl;rw[e]at hu;simp[Builtin.zeroCells]at hu;obtain⟨i,-,rfl⟩:=hu;exact⟨k,n,by simp[Nat.mod_one]⟩
def IRow(w:World)(v:Value):Prop:=∀ g,v.ownBlock=some g→∃ c e fz,w.heap[g]? = some (.cells c e fz)∧Nums c.toList
theorem IRow.alloc{w:World}{v:Value}(h:IRow w v)(o:Obj):IRow (w.alloc o) v:=fun g hg=>by
 obtain⟨c,e,fz,h1,h2⟩:=h g hg;exact⟨c,e,fz,(Below.heap_alloc w o g (Array.getElem?_eq_some_iff.1 h1).1).trans h1,h2⟩
theorem IRow.nil(w:World):IRow w (.slice none 0 0):=fun g hg=>by cases hg
theorem run_append_rdI{P:Program}(w:World)(base:Nat)(t ty e:TypeId)(i:TypeInfo)(k0:IntKind)(n0:Int)(bytes:Nat)(ht:P.underlying t=some (.slice e))(hi:P.info? e=some i)(hz:i.zero=some (.int k0 n0))
 (hsize:i.size=1) (hby:i.bytes=bytes) (v:Value) (n:Nat) (xs:List Value) (hown:w.ownsRow base e 1 v n xs) (hI:IRow w v)
 (A:Option Addr) (m c:Nat) (news:List Value) (hm:news.length=m) (hr:Rd w A news) (hn:Nums news)
 (h63:n+m≤maxLen) (hbytes:(n+m)*bytes≤140737488355328) (hbase:base≤w.heap.size) :
 ∃v' w',(Builtin.append_ #[t,t] ty #[v,.slice A m c]).run P w=.ok v' w'∧w'.ownsRow base e 1 v' (n+m) (xs++news)∧w.grownBy w' v.ownBlock∧IRow w' v':=by
 have h1:∀ u∈news,u.oneCell'=true:=fun u hu=>by obtain⟨k,x,rfl⟩:=hn u hu;rfl
 obtain⟨v',w',hrun,h2,h3,h5⟩:=iY (P:=P) w base t ty e i (.int k0 n0) bytes ht hi hz hsize hby rfl v n xs hown A m c news hm hr h1 h63 hbytes hbase;refine⟨v',w',hrun,h2,h3,?_⟩
 have hsmall:n+m≤9223372036854775807:=by simp only[maxLen]at h63;omega
 subst hby
 cases A with
 |none =>
  obtain rfl:=hr.none_;simp only[List.length_nil]at hm;subst hm
  have hrun2:(Builtin.append_ #[t,t] ty #[v,.slice none 0 c]).run P w=.ok v w:=by
   rcases hown.2 with⟨rfl,rfl⟩|⟨g,cap,cur,rfl,_,_,hnc,_⟩
   ·simp[Builtin.append_,run_underlying ht,sizeOf,typeInfo,hi,Builtin.lenOf,Builtin.firstCells]
   ·simp[Builtin.append_,run_underlying ht,sizeOf,typeInfo,hi,Builtin.lenOf,Builtin.firstCells,hnc,storeCells]
  rw[hrun2]at hrun;injection hrun with e1 e2;subst e1 e2;exact hI
 |some a =>
  have hl:news.length=m*i.size:=by rw[hsize,Nat.mul_one,hm]
  have hnews:=hr.cells a rfl;rcases hown.2 with⟨rfl,rfl⟩|⟨g,cap,cur,rfl,hbg,hg,hnc,hcm,hcs,htake⟩
  ·by_cases hm0:m=0
   ·subst hm0;have hn0:news=[]:=List.eq_nil_of_length_eq_zero hm;subst hn0
    have hrun2:(Builtin.append_ #[t,t] ty #[.slice none 0 0,.slice (some a) 0 c]).run P w=.ok (.slice none 0 0) w:=by
     simp[Builtin.append_,run_underlying ht,sizeOf,typeInfo,hi,Builtin.lenOf,Builtin.firstCells,loadCells,loadCellsFrom]
    rw[hrun2]at hrun;injection hrun with e1 e2;subst e1 e2;exact hI
   ·have hrun2:=run_append_nil (P:=P) w t ty e i (.int k0 n0) ht hi hz a m c news hl hnews (by omega) (by omega) (by simp only[Nat.zero_add]at hbytes;omega);rw[hrun2]at hrun;injection hrun with e1 e2;subst e1 e2;intro q hq;simp[Value.ownBlock]at hq;subst hq;refine⟨_,_,_,heap_alloc_new w.drew _,?_⟩;rw[Array.toList_append];exact Nums.app hn (nums_zero _ _ _)
  ·obtain⟨c2,e2,fz2,hg2,hc2⟩:=hI g rfl;rw[hg]at hg2;cases hg2;by_cases hroom:n+m≤cap
   ·have hfit:n*i.size+news.length≤cur.size:=by rw[hl,hsize];omega
    have hrun2:=run_append_room (P:=P) w t ty e i ht hi g n cap cur hg a m c news hl hnews h1 hroom hfit;rw[hrun2]at hrun;injection hrun with e1 e2;subst e1 e2;intro q hq;simp[Value.ownBlock]at hq;subst hq;refine⟨_,_,_,setRow_heap w g cur _ e _ hg,?_⟩;exact Nums.app (Nums.app (fun u hu=>hc2 u (List.mem_of_mem_take hu)) hn) (fun u hu=>hc2 u (List.mem_of_mem_drop hu))
   ·have holds:∀ j u,xs[j]? = some u→w.cell? ((⟨g,0,none⟩:Addr).add j)=some u:=hown.cells (g:=g) rfl
    have hrun2:=run_append_grow (P:=P) w t ty e i (.int k0 n0) ht hi hz ⟨g,0,none⟩ n cap xs (by rw[hsize];exact hown.1) holds a m c news hl hnews (by omega) (by omega) (growslice_fits (by omega) hbytes);rw[hrun2]at hrun;injection hrun with e1 e2;subst e1 e2;intro q hq;simp[Value.ownBlock]at hq;subst hq;refine⟨_,_,_,heap_alloc_new w.drew _,?_⟩;rw[Array.toList_append,Array.toList_append];refine Nums.app (Nums.app (fun u hu=>?_) hn) (nums_zero _ _ _)
    have hu':u∈xs:=by simpa using hu
    rw[←htake]at hu';exact hc2 u (List.mem_of_mem_take hu')
def OwnI(w:World)(base:Nat)(v:Value)(n:Nat)(xs:List Value):Prop:=w.ownsRow base 5 1 v n xs∧IRow w v
theorem OwnI.alloc{w:World}{base n:Nat}{v:Value}{xs:List Value}(h:OwnI w base v n xs)(o:Obj):OwnI (w.alloc o) base v n xs:=⟨h.1.alloc o,h.2.alloc o⟩
theorem OwnI.base{w:World}{base base' n:Nat}{v:Value}{xs:List Value}(h:OwnI w base v n xs)(hb:base'≤base):OwnI w base' v n xs:=⟨own_base h.1 hb,h.2⟩
theorem OwnI.below{w w':World}{base B n:Nat}{v:Value}{xs:List Value}(h:OwnI w base v n xs)(hb:Below B w w')(hB:w.heap.size≤B):OwnI w' base v n xs:=⟨own_below h.1 hb hB,fun g hg=>by
 obtain⟨c,e,fz,h1,h2⟩:=h.2 g hg
 exact⟨c,e,fz,(hb.block g (by have:=(Array.getElem?_eq_some_iff.1 h1).1;omega)).trans h1,h2⟩⟩
theorem OwnI.form{w:World}{base n:Nat}{v:Value}{xs:List Value}(h:OwnI w base v n xs):∃ A c,v=.slice A n c∧n≤c:=by
 obtain⟨A,c,hv,h2,-⟩:=dL h.1;exact⟨A,c,hv,h2⟩
theorem gW(w:World){ops:Array Oper}{rest:List Oper}{o:Oper}{a:Act}{Q:Exit→Act→World→Prop}(hgd:o.guard=none)(s x:Operand)
 (ho:o.op=.call {callee:=.builtin .append,args:=#[s,x],argTypes:=#[25,25]})
 (base:Nat) (v:Value) (n:Nat) (xs:List Value) (hs:a.eval s=v) (hown:OwnI w base v n xs)
 (A:Option Addr) (m c:Nat) (news:List Value) (hx:a.eval x=.slice A m c) (hm:news.length=m) (hr:Rd w A news) (hn:Nums news)
 (hb:n+m≤140737488355328) (hbase:base≤w.heap.size)
 (h:∀ v' w',OwnI w' base v' (n+m) (xs++news)→w.grownBy w' v.ownBlock→wpList Tryz.prog ops Q rest (a.put o.dst v') w'):wpList Tryz.prog ops Q (o::rest) a w:=by
 obtain⟨i0,hi0,hz0,hz1,hz2⟩:=info_parts u8_info;refine wpList_plain hgd fun K hK=>?_;obtain⟨v',w',hrun,h2,h3,h4⟩:=run_append_rdI (P:=Tryz.prog) w base 25 o.type 5 i0 _ _ 1 Tryz.underlying25 hi0 hz0 hz1 hz2 v n xs hown.1 hown.2 A m c news hm hr hn (by simp only[maxLen];omega) (by omega) hbase;unfold Oper.wp execOp;simp only[ho,resolve,invoke,builtin,Sem.run_bind,Sem.run_pure,Result.andThen_ok,List.map_toArray,List.map_cons,List.map_nil,hs,hx,hrun];exact hK _ _ (h v' w' ⟨h2,h4⟩ h3)
theorem wpList_appI(w:World){ops:Array Oper}{rest:List Oper}{o:Oper}{a:Act}{Q:Exit→Act→World→Prop}(hgd:o.guard=none)(s x:Operand)
 (ho:o.op=.call {callee:=.builtin .append,args:=#[s,x],argTypes:=#[25,25]})
 (base:Nat) (v:Value) (n:Nat) (xs:List UInt8) (hs:a.eval s=v) (hown:OwnI w base v n (u8v xs))
 (A:Option Addr) (m c:Nat) (ys:List UInt8) (hx:a.eval x=.slice A m c) (hm:m=ys.length) (hr:Rd w A (u8v ys)) (hb:n+m≤140737488355328) (hbase:base≤w.heap.size)
 (h:∀ (A':Option Addr) (c':Nat) (w':World),n+m≤c'→OwnI w' base (.slice A' (n+m) c') (n+m) (u8v (xs++ys))→Below base w w'→wpList Tryz.prog ops Q rest (a.put o.dst (.slice A' (n+m) c')) w'):wpList Tryz.prog ops Q (o::rest) a w:=by
 refine gW w hgd s x ho base v n (u8v xs) hs hown A m c (u8v ys) hx (by rw[aC,hm]) hr (nums_u8v ys) hb hbase ?_;intro v' w' hown' hg;have hb':=jZ (Below.refl base w) hown.1 hg hbase (Nat.le_refl _);rw[←lC]at hown';obtain⟨A',c',rfl,hc'⟩:=hown'.form;exact h A' c' w' hc' hown' hb'
end
namespace SlotP
open Fram Crc
def headB(seq:Nat)(body:List UInt8):List UInt8:=lowB seq 8++(lowB body.length 4++body)
def slotB(seq:Nat)(body:List UInt8):List UInt8:=headB seq body++lowB (crc (headB seq body)).toNat 4
theorem lZ(seq:Nat)(body:List UInt8):(headB seq body).length=12+body.length:=by simp[headB,af];omega
theorem gu(seq:Nat)(body:List UInt8):(slotB seq body).length=16+body.length:=by simp[slotB,lZ,af];omega
def seqS(l:List UInt8):Nat:=leN (l.take 8)
def longS(l:List UInt8):Nat:=leN ((l.drop 8).take 4)
def bodyS(l:List UInt8):List UInt8:=(l.drop 12).take (longS l)
def sumS(l:List UInt8):Nat:=leN ((l.drop (12+longS l)).take 4)
def Whole(l:List UInt8):Prop:=16≤l.length∧seqS l≤4611686018427387904∧longS l≤4096∧16+longS l≤l.length∧(crc (l.take (12+longS l))).toNat=sumS l
theorem seqS_lt(l:List UInt8):seqS l<18446744073709551616:=by
 unfold seqS;have h:=lh (l.take 8);have h2:(256:Nat)^(l.take 8).length≤256^8:=Nat.pow_le_pow_right (by omega) (by simp;omega)
 have:(256:Nat)^8=18446744073709551616:=by decide
 omega
theorem longS_lt(l:List UInt8):longS l<4294967296:=by
 unfold longS;have h:=lh ((l.drop 8).take 4);have h2:(256:Nat)^((l.drop 8).take 4).length≤256^4:=Nat.pow_le_pow_right (by omega) (by simp;omega)
 have:(256:Nat)^4=4294967296:=by decide
 omega
theorem sumS_lt(l:List UInt8):sumS l<4294967296:=by
 unfold sumS;have h:=lh ((l.drop (12+longS l)).take 4);have h2:(256:Nat)^((l.drop (12+longS l)).take 4).length≤256^4:=Nat.pow_le_pow_right (by omega) (by simp;omega)
 have:(256:Nat)^4=4294967296:=by decide
 omega
theorem ni{l:List UInt8}(h:16+longS l≤l.length):(bodyS l).length=longS l:=by
 unfold bodyS;simp;omega
theorem whole_iff{l:List UInt8}(h16:16≤l.length)(hl:16+longS l≤l.length):(crc (l.take (12+longS l))).toNat=sumS l↔l.take (16+longS l)=slotB (seqS l) (bodyS l):=by
 have hb:=ni hl
 have e1:headB (seqS l) (bodyS l)=l.take (12+longS l):=by
  unfold headB;rw[hb]
  have a1:lowB (seqS l) 8=l.take 8:=by
   have:=lowB_leN (l.take 8);rwa[show(l.take 8).length=8 by simp;omega]at this
  have a2:lowB (longS l) 4=(l.drop 8).take 4:=by
   have:=lowB_leN ((l.drop 8).take 4);rwa[show((l.drop 8).take 4).length=4 by simp;omega]at this
  rw[a1,a2];unfold bodyS
  have s1:l.take (12+longS l)=l.take 8++(l.drop 8).take (4+longS l):=by rw[show 12+longS l=8+(4+longS l) by omega,List.take_add]
  rw[s1]
  congr 1
  rw[List.take_add,List.drop_drop]
 have e2:l.take (16+longS l)=l.take (12+longS l)++(l.drop (12+longS l)).take 4:=by rw[show 16+longS l=(12+longS l)+4 by omega,List.take_add]
 have e3:lowB (sumS l) 4=(l.drop (12+longS l)).take 4:=by
  have:=lowB_leN ((l.drop (12+longS l)).take 4);rwa[show((l.drop (12+longS l)).take 4).length=4 by simp;omega]at this
 unfold slotB;rw[e1,e2,←e3];constructor
 ·intro h;rw[h]
 ·intro h;have h2:=List.append_cancel_left h;exact(lowB_inj (n:=4) (by have:=sumS_lt l;omega) (by have:=(crc (l.take (12+longS l))).isLt;omega) h2).symm
theorem slot_reads(seq:Nat)(body rest:List UInt8)(hs:seq≤4611686018427387904)(hb:body.length≤4096) :
 seqS (slotB seq body++rest)=seq∧longS (slotB seq body++rest)=body.length∧bodyS (slotB seq body++rest)=body∧Whole (slotB seq body++rest):=by
 have e:∀ s,headB seq body++s=lowB seq 8++(lowB body.length 4++(body++s)):=by intro s;simp[headB]
 have e0:slotB seq body++rest=lowB seq 8++(lowB body.length 4++(body++(lowB (crc (headB seq body)).toNat 4++rest))):=by
  unfold slotB;rw[List.append_assoc,e]
 have h1:seqS (slotB seq body++rest)=seq:=by
  unfold seqS;rw[e0,List.take_left' (af _ _),jJ,Nat.mod_eq_of_lt (by omega)]
 have h2:longS (slotB seq body++rest)=body.length:=by
  unfold longS;rw[e0,List.drop_left' (af _ _),List.take_left' (af _ _),jJ,Nat.mod_eq_of_lt (by omega)]
 have h3:bodyS (slotB seq body++rest)=body:=by
  unfold bodyS;rw[h2,e0,←List.append_assoc,List.drop_left' (by simp[af]),List.take_left' rfl]
 have hl:(slotB seq body++rest).length=16+body.length+rest.length:=by rw[List.length_append,gu]
 refine⟨h1,h2,h3,?_⟩;have hw:=whole_iff (l:=slotB seq body++rest) (by omega) (by rw[h2];omega);refine⟨by omega,by rw[h1];exact hs,by rw[h2];exact hb,by rw[h2];omega,hw.2 ?_⟩;rw[h1,h2,h3,List.take_left' (by rw[gu])]
theorem part_not_whole(seq:Nat)(body:List UInt8)(hs:seq≤4611686018427387904)(hb:body.length≤4096)(c:Nat)(hc:c<16+body.length):¬ Whole ((slotB seq body).take c):=by
 rintro⟨h16,-,-,hl,-⟩;rw[List.length_take,gu]at h16 hl
 have e:longS ((slotB seq body).take c)=body.length:=by
  have h:=(slot_reads seq body [] hs hb).2.1;rw[List.append_nil]at h;rw[←h];unfold longS;rw[List.drop_take,List.take_take]
  congr 2
  omega
 rw[e]at hl;omega
end SlotP
namespace SlotW
open RowKit Fram SlotP
theorem or_front(x:Nat)(b:UInt8)(hx:x*256<18446744073709551616):bits .or .u64 (IntKind.u64.wrap ((x:Int)*256)) (b.toNat:Int)=((b.toNat+256*x:Nat):Int):=by
 have hb:=b.toNat_lt
 have e1:((x:Int)*256)=((x*256:Nat):Int):=by omega
 rw[e1,IntKind.wrap_u64]
 have e2:(((x*256:Nat):Int)%18446744073709551616)=((x*256:Nat):Int):=by omega
 rw[e2,u64_or_nat _ _ (by omega) (by omega),nat_join 8 (x*256) b.toNat (by omega) (by omega)];omega
theorem leN_cons(b:UInt8)(l:List UInt8):leN (b::l)=b.toNat+256*leN l:=rfl
set_option maxHeartbeats 1000000 in
theorem dC(A:Option Addr)(l:List UInt8)(n cap:Nat)(w:World)(hn:n=l.length)(h8:l.length≤8)(hr:Rd w A (u8v l)) :
 Calls Tryz.prog 42 #[.slice A n cap] w fun e w'=>e=.returned (.int .u64 (leN l))∧w=w':=by
 rcases Nat.eq_zero_or_pos l.length with h0|h0
 ·obtain rfl:n=0:=by omega
  have hl:leN l=0:=by rw[List.eq_nil_of_length_eq_zero h0];rfl
  have HL:=hide hl;clear hl hn h0 h8
  go_enter Tryz.func42,Tryz.ntmps42
  go_wp2
  go_loop [2,3] (fun c i=>c=.int .u64 0∧i=.int .i64 (-1)) (fun _ i=>0)
  case atStart=>exact⟨rfl,rfl⟩
  case round =>
   obtain⟨rfl,rfl⟩:=hrel
   go_wp2
   go_ret
   exact⟨by rw[HL.out];rfl,rfl⟩
 obtain⟨b,off,rfl,_,hc⟩:=hr.form (by simp[u8v];omega);simp only[u8v,List.getElem_map,List.length_map]at hc;have HC:=hide hc;have HN:=hide hn
 have hn8:n≤8:=by omega
 clear hc hn h8 h0
 go_enter Tryz.func42,Tryz.ntmps42
 go_wp2
 go_loop [2,3] (fun c i=>∃ (k x:Nat),k≤n∧i=.int .i64 ((k:Int)-1)∧c=.int .u64 x∧Hid (x=leN (l.drop k))) (fun _ i=>(intOf i+1).toNat)
 case atStart=>exact⟨n,0,by omega,rfl,rfl,hide (by rw[List.drop_of_length_le (by rw[←HN.out];exact Nat.le_refl _)];rfl)⟩
 case round =>
  obtain⟨k,x,hk,rfl,rfl,HX⟩:=hrel;by_cases hlt:0<k
  ·obtain⟨j,rfl⟩:∃ j,k=j+1:=⟨k-1,by omega⟩
   have ej:(((j+1:Nat):Int)-1)=(j:Int):=by omega
   rw[ej];clear ej
   have hin:j<l.length:=by rw[←HN.out];omega
   have hck:=HC.out j hin;have hbd:=l[j].toNat_lt
   have hx:x*256<18446744073709551616:=by
    have h1:=lh (l.drop (j+1));rw[←HX.out]at h1;have h2:(256:Nat)^(l.drop (j+1)).length≤256^7:=Nat.pow_le_pow_right (by omega) (by simp;have:=HN.out;omega)
    have h3:(256:Nat)^7=72057594037927936:=by decide
    omega
   have hor:=or_front x l[j] hx
   have HN2:Hid (l[j].toNat+256*x=leN (l.drop j)):=by
    rw[List.drop_eq_getElem_cons hin,leN_cons,HX.out];exact hide rfl
   generalize l[j].toNat+256*x=y at hor HN2;clear hx
   go_wp2
   go_round
   case rel=>exact⟨j,y,by omega,by go_num,rfl,HN2⟩
   case measure=>simp[intOf]
  ·obtain rfl:k=0:=by omega
   go_wp2
   go_ret
   exact⟨by rw[HX.out];rfl,rfl⟩
theorem byte_low(x k:Nat):((x:Int) / 2^(8*k))%256=((UInt8.ofNat (x / 256^k)).toNat:Int):=by
 have e0:(256:Nat)^k=2^(8*k):=by rw[show(256:Nat)=2^8 from rfl,←Nat.pow_mul]
 rw[UInt8.toNat_ofNat',e0]
 have:((x:Int) / 2^(8*k))=((x / 2^(8*k):Nat):Int):=by simp
 rw[this];omega
theorem u8v_snoc(l:List UInt8)(z:UInt8):u8v (l++[z])=u8v l++[.int .u8 (z.toNat:Int)]:=by simp[u8v]
set_option maxHeartbeats 1000000 in
theorem low_any(base:Nat)(v:Value)(k m:Nat)(xs:List UInt8)(x:Nat)(w:World)(hown:OwnI w base v k (u8v xs))(hbase:base≤w.heap.size)(hk:k≤1000000)(hm:m≤8) :
 Calls Tryz.prog 25 #[v,.int .u64 x,.int .i64 m] w fun e w'=>∃ v',e=.returned v'∧OwnI w' base v' (k+m) (u8v (xs++lowB x m))∧Below base w w':=by
 go_enter Tryz.func25,Tryz.ntmps25
 go_wp2
 go_loopw [0,9] (fun u i wr=>∃ j:Nat,j≤m∧i=.int .i64 j∧OwnI wr base u (k+j) (u8v (xs++lowB x j))∧Below base w wr∧base≤wr.heap.size) (fun _ i _=>m-(intOf i).toNat)
 case atStart=>exact⟨0,by omega,rfl,by simpa[lowB_zero] using hown,Below.refl _ _,hbase⟩
 case round =>
  clear hown hbase;obtain⟨j,hj,rfl,hown,hb,hbase⟩:=hrel;by_cases hlt:j<m
  ·have hby:=byte_low x j;obtain⟨z,hz⟩:∃ z,z=UInt8.ofNat (x / 256^j):=⟨_,rfl⟩;rw[←hz]at hby
   have HS:Hid (u8v (xs++lowB x (j+1))=u8v (xs++lowB x j)++[.int .u8 (z.toNat:Int)]):=by
    rw[nD,←hz,←List.append_assoc,u8v_snoc];exact hide rfl
   clear hz;generalize u8v (xs++lowB x j)=cs at hown HS
   go_wp2_with (first
    |(at_builtin
      refine gW _ rfl (.tmp 12) (.tmp 18) rfl base _ (k+j) cs rfl (by exact hown.alloc _) _ 1 1 [.int .u8 (z.toNat:Int)] rfl rfl (Rd.one _ _ _) ?_ ?_ ?_ ?_
      ·intro u hu;simp at hu;exact⟨_,_,hu⟩
      ·omega
      ·simp;omega
      intro v' w4 hown4 hg4;have hb4:=jZ (hb.alloc hbase _) (hown.alloc _).1 hg4 (by simp;omega) (Nat.le_refl _);have hs4:=hg4.size
      simp at hs4))
   go_roundw
   case rel=>exact⟨j+1,by omega,by go_num,by rw[HS.out];exact hown4,hb4,by omega⟩
   case measure=>simp[intOf];omega
  ·go_wp2
   go_ret
   obtain rfl:j=m:=by omega
   exact⟨_,rfl,hown,hb⟩
end SlotW
