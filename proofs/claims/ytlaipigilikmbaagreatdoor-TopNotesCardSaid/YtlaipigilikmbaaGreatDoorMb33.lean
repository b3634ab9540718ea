/- Texts of this seat,put together: SlotNext,RecPlain,I64,Fr,RecNum,RecRows,RecFault,RecWrite,BufW,Still,RecRd. -/
import Derived.Test.YtlaipigilikmbaaGreatDoorMb32
import Derived.Test.YtlaipigilikmbaaGreatDoorMb12
import Derived.Test.YtlaipigilikmbaaGreatDoorMb1
import Derived.Test.YtlaipigilikmbaaGreatDoorChecked
import Derived.Deep.OwnRows
import Derived.Test.YtlaipigilikmbaaGreatDoorMb13
import Derived.Deep.RegionHeld3
import Derived.StillTailTactics
namespace Go.Proofs.YtlaipigilikmbaaGreatDoor
noncomputable section
set_option linter.unusedVariables false
set_option linter.unusedSimpArgs false
namespace SlotW
open RowKit Fram SlotP CrcW Crc
attribute [local irreducible] seqS longS bodyS sumS
def NextPost(w:World)(a b:List UInt8)(e:Ending)(w':World):Prop :=
 Below w.heap.size w w'∧((¬Whole a∧¬ Whole b∧e=.returned (.int .i64 0))∨(∃(k:Int) (l:List UInt8),Sel a b k l∧e=.returned (.int .i64 (1-k))))
theorem sel_k{a b:List UInt8}{k:Int}{l:List UInt8}(h:Sel a b k l):0≤k∧k≤1:=by
 rcases h with⟨rfl,_⟩|⟨rfl,_⟩<;>omega
set_option maxHeartbeats 1000000 in
theorem next_any(A C:Option Addr)(a b:List UInt8)(n m c d:Nat)(w:World)(hn:n=a.length)(hm:m=b.length)(hnc:n≤c)(hmd:m≤d)(hcm:c≤9223372036854775807)(hdm:d≤9223372036854775807)(ra:Rd w A (u8v a))(rb:Rd w C (u8v b)) :
 Calls Tryz.prog 8 #[.slice A n c,.slice C m d] w (NextPost w a b):=by
 have HN:=hide hn;have HM:=hide hm;clear hn hm
 go_enter Tryz.func8,Tryz.ntmps8
 go_wp2_with fail
 refine(choose_any A C a b n m c d _ HN.out HM.out hnc hmd hcm hdm ra rb).mono ?_;rintro e w2 ⟨hb2,h2⟩;rcases h2 with⟨hWa,hWb,rfl⟩|⟨k,l,B2,c2,hS2,rfl,hr2,hc2⟩
 ·go_wp2_with fail
  go_ret
  exact⟨hb2,.inl ⟨hWa,hWb,rfl⟩⟩
 ·obtain⟨hk0,hk1⟩:=sel_k hS2
  go_wp2_with fail
  go_ret
  exact⟨hb2,.inr ⟨k,l,hS2,rfl⟩⟩
end SlotW
namespace Rec
def num(x:Nat):List UInt8:=if h:x<128 then[UInt8.ofNat x] else UInt8.ofNat (128+x%128)::num (x / 128)
 termination_by x
 decreasing_by omega
def decF:Nat→Bool→List UInt8→Option (Nat×List UInt8)
 |0,_,_=>none
 |_+1,_,[]=>none
 |r+1,first,b::l=>if b.toNat<128 then(if b.toNat=0∧first=false then none else some (b.toNat,l)) else(decF r false l).map fun p=>(b.toNat%128+128*p.1,p.2)
def top:Nat:=4611686018427387904
def dec(l:List UInt8):Option (Nat×List UInt8):=(decF 9 true l).bind fun p=>if p.1≤top then some p else none
theorem gU{x:Nat}(h:x<128):num x=[UInt8.ofNat x]:=by rw[num,dif_pos h]
theorem lY{x:Nat}(h:¬ x<128):num x=UInt8.ofNat (128+x%128)::num (x / 128):=by rw[num,dif_neg h]
theorem ofNat_toNat{x:Nat}(h:x<256):(UInt8.ofNat x).toNat=x:=by rw[UInt8.toNat_ofNat'];omega
theorem num_len(x:Nat):1≤(num x).length:=by
 by_cases h:x<128
 ·rw[gU h];simp
 ·rw[lY h];simp
theorem num_len_le:∀ (r:Nat) (x:Nat),x<128^r→0<r→(num x).length≤r
 |0,_,_,h=>absurd h (by omega)
 |r+1,x,hx,_=>by
  by_cases h:x<128
  ·rw[gU h];simp
  ·rw[lY h,List.length_cons]
   have hx':x / 128<128^r:=by
    rw[Nat.div_lt_iff_lt_mul (by omega)];rw[Nat.pow_succ]at hx;exact hx
   have hr:0<r:=by
    rcases Nat.eq_zero_or_pos r with h0|h0
    ·subst h0;simp at hx';omega
    ·exact h0
   have:=num_len_le r (x / 128) hx' hr;omega
theorem div_lt{x r:Nat}(hx:x<128^(r+1)):x / 128<128^r:=by
 rw[Nat.div_lt_iff_lt_mul (by omega)];rw[Nat.pow_succ]at hx;exact hx
theorem oI:∀ (r:Nat) (first:Bool) (x:Nat) (rest:List UInt8),0<r→x<128^r→(x=0→first=true)→decF r first (num x++rest)=some (x,rest)
 |0,_,_,_,h,_,_=>absurd h (by omega)
 |r+1,first,x,rest,_,hx,h0=>by
  by_cases h:x<128
  ·rw[gU h,List.singleton_append,decF,ofNat_toNat (by omega),if_pos h];rw[if_neg];rintro⟨h1,h2⟩;rw[h0 h1]at h2;cases h2
  ·rw[lY h,List.cons_append,decF,ofNat_toNat (by omega),if_neg (by omega)];have hx':=div_lt hx
   have hr:0<r:=by
    rcases Nat.eq_zero_or_pos r with h1|h1
    ·subst h1;simp at hx';omega
    ·exact h1
   rw[oI r false (x / 128) rest hr hx' (by omega)];simp only[Option.map_some,Option.some.injEq,Prod.mk.injEq,and_true];omega
theorem num_of_decF:∀ (r:Nat) (first:Bool) (x:Nat) (l rest:List UInt8),decF r first l=some (x,rest)→l=num x++rest∧x<128^r∧(x=0→first=true)
 |0,_,_,_,_,h=>by cases h
 |_+1,_,_,[],_,h=>by cases h
 |r+1,first,x,b::l,rest,h=>by
  rw[decF]at h;by_cases hb:b.toNat<128
  ·rw[if_pos hb]at h
   by_cases h0:b.toNat=0∧first=false
   ·rw[if_pos h0]at h;cases h
   ·rw[if_neg h0]at h;injection h with h;injection h with h1 h2;subst h1 h2;refine⟨?_,?_,fun e=>?_⟩
    ·rw[gU hb,List.singleton_append,UInt8.ofNat_toNat]
    ·have:128^1≤128^(r+1):=Nat.pow_le_pow_right (by omega) (by omega);omega
    ·cases first with
     |true=>rfl
     |false=>exact absurd ⟨e,rfl⟩ h0
  ·rw[if_neg hb]at h
   cases hd:decF r false l with
   |none=>rw[hd]at h;cases h
   |some p =>
    rw[hd]at h;obtain⟨v,rest'⟩:=p;simp only[Option.map_some,Option.some.injEq,Prod.mk.injEq]at h;obtain⟨h1,h2⟩:=h;subst h2;obtain⟨e1,e2,e3⟩:=num_of_decF r false v l rest' hd;have hb2:=b.toNat_lt
    have hv:v≠0:=fun e=>by have:=e3 e;cases this
    refine⟨?_,?_,fun e=>by omega⟩
    ·rw[lY (by omega),e1,←h1];rw[show(b.toNat%128+128*v) / 128=v from by omega,show(b.toNat%128+128*v)%128=b.toNat%128 from by omega,List.cons_append]
     congr 1
     rw[show 128+b.toNat%128=b.toNat from by omega,UInt8.ofNat_toNat]
    ·rw[Nat.pow_succ,←h1];omega
theorem top_lt{x:Nat}(h:x≤top):x<128^9:=by unfold top at h;omega
theorem dec_num{x:Nat}(h:x≤top)(rest:List UInt8):dec (num x++rest)=some (x,rest):=by
 unfold dec;rw[oI 9 true x rest (by omega) (top_lt h) (fun _=>rfl)];exact if_pos h
theorem iI{l rest:List UInt8}{x:Nat}(h:dec l=some (x,rest)):l=num x++rest∧x≤top:=by
 unfold dec at h
 cases hd:decF 9 true l with
 |none=>rw[hd]at h;cases h
 |some p =>
  rw[hd]at h;simp only[Option.bind_some]at h;by_cases hp:p.1≤top
  ·rw[if_pos hp]at h;injection h with h;subst h;exact⟨(num_of_decF 9 true x l rest hd).1,hp⟩
  ·rw[if_neg hp]at h;cases h
abbrev Ent:=Nat×Nat×Nat
def okE(e:Ent):Prop:=e.1≤top∧e.2.1≤top∧e.2.2≤top
def ent(e:Ent):List UInt8:=num e.1++(num e.2.1++num e.2.2)
def ents:List Ent→List UInt8
 |[]=>[]
 |e::l=>ent e++ents l
theorem jP(l m:List Ent):ents (l++m)=ents l++ents m:=by
 induction l with
 |nil=>rfl
 |cons e l ih=>simp only[List.cons_append,ents,ih,List.append_assoc]
def decE(l:List UInt8):Option (Ent×List UInt8):=(dec l).bind fun p=>(dec p.2).bind fun q=>(dec q.2).map fun s=>((p.1,q.1,s.1),s.2)
theorem mF{l rest:List UInt8}{e:Ent}:decE l=some (e,rest)↔l=ent e++rest∧okE e:=by
 unfold decE;constructor
 ·intro h
  cases h1:dec l with
  |none=>rw[h1]at h;cases h
  |some p =>
   rw[h1]at h;simp only[Option.bind_some]at h
   cases h2:dec p.2 with
   |none=>rw[h2]at h;cases h
   |some q =>
    rw[h2]at h;simp only[Option.bind_some]at h
    cases h3:dec q.2 with
    |none=>rw[h3]at h;cases h
    |some s =>
     rw[h3]at h;simp only[Option.map_some,Option.some.injEq,Prod.mk.injEq]at h;obtain⟨rfl,rfl⟩:=h;have a1:=iI (x:=p.1) (rest:=p.2) h1;have a2:=iI (x:=q.1) (rest:=q.2) h2;have a3:=iI (x:=s.1) (rest:=s.2) h3;refine⟨?_,a1.2,a2.2,a3.2⟩;rw[a1.1,a2.1,a3.1];simp only[ent,List.append_assoc]
 ·rintro⟨rfl,h1,h2,h3⟩;simp only[ent,List.append_assoc];rw[dec_num h1,Option.bind_some,dec_num h2,Option.bind_some,dec_num h3];rfl
def decEs:Nat→List UInt8→Option (List Ent×List UInt8)
 |0,l=>some ([],l)
 |n+1,l=>(decE l).bind fun p=>(decEs n p.2).map fun q=>(p.1::q.1,q.2)
theorem jh:∀ {n:Nat} {l rest:List UInt8} {es:List Ent},decEs n l=some (es,rest)↔l=ents es++rest∧es.length=n∧∀ e∈es,okE e
 |0,l,rest,es=>by
  constructor
  ·intro h;injection h with h;injection h with h1 h2;subst h1 h2;exact⟨rfl,rfl,fun e he=>by cases he⟩
  ·rintro⟨rfl,h,-⟩;obtain rfl:=List.eq_nil_of_length_eq_zero h;rfl
 |n+1,l,rest,es=>by
  rw[decEs];constructor
  ·intro h
   cases h1:decE l with
   |none=>rw[h1]at h;cases h
   |some p =>
    rw[h1]at h;simp only[Option.bind_some]at h
    cases h2:decEs n p.2 with
    |none=>rw[h2]at h;cases h
    |some q =>
     rw[h2]at h;simp only[Option.map_some,Option.some.injEq,Prod.mk.injEq]at h;obtain⟨rfl,rfl⟩:=h;have a1:l=ent p.1++p.2∧okE p.1:=mF.1 h1;have a2:p.2=ents q.1++q.2∧q.1.length=n∧∀ e∈q.1,okE e:=jh.1 h2;refine⟨?_,by simp[a2.2.1],fun e he=>?_⟩
     ·rw[a1.1,a2.1,ents,List.append_assoc]
     ·rcases List.mem_cons.1 he with rfl|he
      ·exact a1.2
      ·exact a2.2.2 e he
  ·rintro⟨rfl,h,hok⟩
   cases es with
   |nil=>cases h
   |cons e es =>
    rw[ents,List.append_assoc,mF.2 ⟨rfl,hok e (List.mem_cons_self ..)⟩,Option.bind_some,jh.2 ⟨rfl,by simpa using h,fun e he=>hok e (List.mem_cons_of_mem _ he)⟩];rfl
def le4(x:Nat):List UInt8:=[UInt8.ofNat x,UInt8.ofNat (x / 256),UInt8.ofNat (x / 65536),UInt8.ofNat (x / 16777216)]
def body(es:List Ent):List UInt8:=num es.length++ents es
def sum(l:List UInt8):List UInt8:=le4 (Crc.crc l).toNat
def bat(es:List Ent):List UInt8:=body es++sum (body es)
def okB(es:List Ent):Prop:=es.length≤64∧∀ e∈es,okE e
def decB(l:List UInt8):Option (List Ent×List UInt8) :=
 (dec l).bind fun p=>if p.1≤64 then(decEs p.1 p.2).bind fun q=>if q.2.take 4=sum (l.take (l.length-q.2.length))∧4≤q.2.length then some (q.1,q.2.drop 4) else none else none
theorem sum_len(l:List UInt8):(sum l).length=4:=rfl
theorem decB_iff{l rest:List UInt8}{es:List Ent}:decB l=some (es,rest)↔l=bat es++rest∧okB es:=by
 unfold decB;constructor
 ·intro h
  cases h1:dec l with
  |none=>rw[h1]at h;cases h
  |some p =>
   obtain⟨n,l1⟩:=p;rw[h1]at h;simp only[Option.bind_some]at h;by_cases hn:n≤64
   ·rw[if_pos hn]at h
    cases h2:decEs n l1 with
    |none=>rw[h2]at h;cases h
    |some q =>
     obtain⟨es',l2⟩:=q;rw[h2]at h;simp only[Option.bind_some]at h;by_cases h3:l2.take 4=sum (l.take (l.length-l2.length))∧4≤l2.length
     ·rw[if_pos h3]at h;injection h with h;injection h with e1 e2;subst e1 e2;obtain⟨rfl,hx⟩:=iI h1;obtain⟨rfl,hlen,hok⟩:=jh.1 h2;refine⟨?_,by omega,hok⟩
      have hl:num n++(ents es'++l2)=body es'++l2:=by rw[body,hlen,List.append_assoc]
      rw[hl]at h3⊢
      have ht:(body es'++l2).take ((body es'++l2).length-l2.length)=body es':=by
       rw[List.length_append,Nat.add_sub_cancel,List.take_left]
      rw[ht]at h3;rw[bat,←h3.1,List.append_assoc,List.take_append_drop]
     ·rw[if_neg h3]at h;cases h
   ·rw[if_neg hn]at h;cases h
 ·rintro⟨rfl,hlen,hok⟩
  have e1:bat es++rest=num es.length++(ents es++(sum (body es)++rest)):=by simp only[bat,body,List.append_assoc]
  have hd:dec (bat es++rest)=some (es.length,ents es++(sum (body es)++rest)):=by
   rw[e1,dec_num (by unfold top;omega)]
  rw[hd,Option.bind_some,if_pos hlen,jh.2 ⟨rfl,rfl,hok⟩,Option.bind_some]
  have ht:(bat es++rest).take ((bat es++rest).length-(sum (body es)++rest).length)=body es:=by
   have e2:bat es++rest=body es++(sum (body es)++rest):=by rw[bat,List.append_assoc]
   rw[e2,@List.length_append _ (body es) _,Nat.add_sub_cancel,List.take_left]
  have hs4:(sum (body es)++rest).take 4=sum (body es):=by rw[List.take_append_of_le_length (by rw[sum_len];omega)];rfl
  have hs5:(sum (body es)++rest).drop 4=rest:=by rw[List.drop_append_of_le_length (by rw[sum_len];omega)];rfl
  rw[ht,if_pos ⟨hs4,by rw[List.length_append,sum_len];omega⟩,hs5]
theorem bat_len(es:List Ent):5≤(bat es).length:=by
 rw[bat,List.length_append,sum_len,body,List.length_append];have:=num_len es.length;omega
def readF:Nat→List UInt8→List (List Ent)×List UInt8
 |0,l=>([],l)
 |f+1,l=>match decB l with
  |none=>([],l)
  |some p=>let q:=readF f p.2;(p.1::q.1,q.2)
def flat:List (List Ent)→List UInt8
 |[]=>[]
 |es::ls=>bat es++flat ls
theorem flat_append(a b:List (List Ent)):flat (a++b)=flat a++flat b:=by
 induction a with
 |nil=>rfl
 |cons e a ih=>simp only[List.cons_append,flat,ih,List.append_assoc]
def read(l:List UInt8):List (List Ent)×List UInt8:=readF l.length l
theorem readF_eq:∀ (ls:List (List Ent)) (f:Nat) (rest:List UInt8),(∀es∈ls,okB es)→decB rest=none→(flat ls++rest).length≤f→readF f (flat ls++rest)=(ls,rest)
 |[],f,rest,_,h,_=>by
  cases f with
  |zero=>rfl
  |succ f=>show readF (f+1) rest=_;rw[readF,h]
 |es::ls,f,rest,hok,h,hf=>by
  have hb:=bat_len es
  cases f with
  |zero =>
   rw[flat,List.append_assoc,List.length_append]at hf;omega
  |succ f =>
   have e1:flat (es::ls)++rest=bat es++(flat ls++rest):=by rw[flat,List.append_assoc]
   rw[e1]at hf⊢;rw[readF,decB_iff.2 ⟨rfl,hok es (List.mem_cons_self ..)⟩];simp only;rw[List.length_append]at hf;rw[readF_eq ls f rest (fun e he=>hok e (List.mem_cons_of_mem _ he)) h (by omega)]
theorem read_eq{ls:List (List Ent)}{rest:List UInt8}(hok:∀ es∈ls,okB es)(h:decB rest=none):read (flat ls++rest)=(ls,rest):=readF_eq ls _ rest hok h (Nat.le_refl _)
theorem decB_nil:decB []=none:=rfl
end Rec
namespace I64
open RowKit
def i64v(l:List Int):List Value:=l.map fun x=>.int .i64 x
theorem bk_ne{w:World}{g h:Nat}{t e:TypeId}{cs ds:Array Value}(h1:Bk w g t cs)(h2:Bk w h e ds)(hne:t≠e):g≠h:=by
 rintro rfl;unfold Bk at h1 h2;rw[h1]at h2;injection h2 with h2;injection h2 with _ ht;exact hne ht
def Kept(B T:Nat)(w w':World):Prop:=Below B w w'∧∀ k,T≤k→k<w.heap.size→w'.heap[k]? = w.heap[k]?
theorem Kept.refl(B T:Nat)(w:World):Kept B T w w:=⟨Below.refl _ _,fun _ _ _=>rfl⟩
theorem Kept.trans{B T:Nat}{a b c:World}(h:Kept B T a b)(k:Kept B T b c):Kept B T a c :=
 ⟨h.1.trans k.1,fun q h1 h2=>(k.2 q h1 (Nat.lt_of_lt_of_le h2 h.1.size)).trans (h.2 q h1 h2)⟩
theorem Kept.drew{B T:Nat}{a w:World}(h:Kept B T a w):Kept B T a w.drew:=⟨h.1.drew,h.2⟩
theorem Kept.setCell{B T:Nat}{w:World}{p:Addr}(h1:B≤p.block)(h2:p.block<T)(u:Value):Kept B T w (w.setCell p u) :=
 ⟨(Below.refl _ _).setCell h1 u,fun k hk _=>Below.heap_setCell w p u k (by omega)⟩
theorem Kept.bk{B T o:Nat}{w w':World}{t:TypeId}{cs:Array Value}(hk:Kept B T w w')(h:Bk w o t cs)(hT:T≤o):Bk w' o t cs:=(hk.2 o hT h.lt).trans h
end I64
section
open RowKit I64
structure Fr(B:Nat)(T:Obj→Prop)(w w':World):Prop where
 low:Below B w w'
 keep:∀ (x:Nat) (o:Obj),w.heap[x]? = some o→¬ T o→w'.heap[x]? = some o
section
variable {B:Nat}{T T':Obj→Prop}{a b c w w':World}
theorem Fr.refl(B:Nat)(T:Obj→Prop)(w:World):Fr B T w w:=⟨Below.refl _ _,fun _ _ h _=>h⟩
theorem Fr.mono(h:Fr B T a b)(hT:∀ o,T o→T' o):Fr B T' a b:=⟨h.low,fun x o hx hn=>h.keep x o hx fun ht=>hn (hT o ht)⟩
theorem Fr.base(h:Fr B T a b){B':Nat}(hB:B'≤B):Fr B' T a b:=⟨h.low.mono hB,h.keep⟩
theorem Fr.trans(h:Fr B T a b)(k:Fr B T b c):Fr B T a c:=⟨h.low.trans k.low,fun x o hx hn=>k.keep x o (h.keep x o hx hn) hn⟩
theorem Fr.drew(h:Fr B T a w):Fr B T a w.drew:=⟨h.low.drew,h.keep⟩
theorem Fr.of_below(h:Below w.heap.size w w')(hB:B≤w.heap.size):Fr B T w w' :=
 ⟨h.mono hB,fun x o hx _=>by rw[h.block x (Array.getElem?_eq_some_iff.1 hx).1];exact hx⟩
theorem Fr.alloc(h:Fr B T a w)(hB:B≤w.heap.size)(o:Obj):Fr B T a (w.alloc o):=h.trans (Fr.of_below ((Below.refl _ _).alloc (Nat.le_refl _) o) hB)
theorem Fr.set{w:World}{p:Addr}{t:TypeId}{cs:Array Value}(hp:Bk w p.block t cs)(hB:B≤p.block)(hT:T (.cells cs t (0,0)))(u:Value):Fr B T w (w.setCell p u) :=
 ⟨(Below.refl _ _).setCell hB u,fun x o hx hn=>by
   rw[Below.heap_setCell w p u x ?_];exact hx;rintro rfl;unfold Bk at hp;rw[hp]at hx;injection hx with hx;subst hx
   exact hn hT⟩
theorem Fr.size(h:Fr B T w w'):w.heap.size≤w'.heap.size:=h.low.size
theorem Fr.bk{g:Nat}{t:TypeId}{cs:Array Value}(h:Fr B T w w')(hk:Bk w g t cs)(hT:¬ T (.cells cs t (0,0))):Bk w' g t cs:=h.keep g _ hk hT
theorem Fr.row{r:Option Nat}(hg:w.grownBy w' r)(hB:B≤w.heap.size)(hr:∀ k,r=some k→B≤k∧∀ o,w.heap[k]? = some o→T o):Fr B T w w' :=
 ⟨below_of_grown hg hB fun k e=>(hr k e).1,fun x o hx hn=>by
  rw[hg.block x (Array.getElem?_eq_some_iff.1 hx).1 (fun e=>hn ((hr x e.symm).2 o hx))];exact hx⟩
end
def Dt(w:World)(B:Nat)(t:TypeId)(A:Option Addr):Prop:=∀ ad,A=some ad→ad.block<B∨∃cs r,w.heap[ad.block]? = some (.cells cs t r)
theorem Dt.fr{w w':World}{B:Nat}{t:TypeId}{A:Option Addr}{T:Obj→Prop}(h:Dt w B t A)(hf:Fr B T w w')(hT:∀ cs r,¬T (.cells cs t r)):Dt w' B t A:=by
 intro ad e;rcases h ad e with h1|⟨cs,r,h1⟩
 ·exact .inl h1
 ·exact .inr ⟨cs,r,hf.keep _ _ h1 (hT cs r)⟩
theorem Dt.rd{w w':World}{B:Nat}{t:TypeId}{A:Option Addr}{T:Obj→Prop}{xs:List Value}(h:Dt w B t A)(hr:Rd w A xs)(hf:Fr B T w w')(hT:∀ cs r,¬T (.cells cs t r)):Rd w' A xs:=by
 rcases hr with rfl|⟨b,off,rfl,hc⟩
 ·exact .inl rfl
 ·refine .inr ⟨b,off,rfl,fun i u hu=>?_⟩
  have hb:w'.heap[b]? = w.heap[b]?:=by
   rcases h _ rfl with h1|⟨cs,r,h1⟩
   ·exact hf.low.block b h1
   ·rw[h1];exact hf.keep _ _ h1 (hT cs r)
  rw[World.cell?_of_block (w:=w) hb];exact hc i u hu
theorem Dt.base{w:World}{B B':Nat}{t:TypeId}{A:Option Addr}(h:Dt w B t A)(hB:B≤B'):Dt w B' t A:=fun ad e=>(h ad e).imp (fun h=>Nat.lt_of_lt_of_le h hB) id
theorem Dt.of_own{w:World}{B base:Nat}{t:TypeId}{n c:Nat}{A:Option Addr}{size:Nat}{xs:List Value}(h:w.ownsRow base t size (.slice A n c) n xs):Dt w B t A:=by
 intro ad e;subst e;rcases h.2 with⟨hv,-⟩|⟨g,cap,cur,hv,-,hh,-⟩
 ·cases hv
 ·injection hv with hv;injection hv with hv;subst hv;exact .inr ⟨cur,(0,0),hh⟩
end
namespace RecW
open RowKit Rec
def u8K:Obj→Prop
 |.cells _ t _=>t=5
 |_=>False
theorem iU(w:World){ops:Array Oper}{rest:List Oper}{o:Oper}{a:Act}{Q:Exit→Act→World→Prop}(hgd:o.guard=none)(s x:Operand)
 (ho:o.op=.call {callee:=.builtin .append,args:=#[s,x],argTypes:=#[25,25]})
 (base:Nat) (v:Value) (n:Nat) (xs:List UInt8) (hs:a.eval s=v) (hown:w.ownsRow base 5 1 v n (u8v xs))
 (A:Option Addr) (m c:Nat) (ys:List UInt8) (hx:a.eval x=.slice A m c) (hm:m=ys.length) (hr:Rd w A (u8v ys)) (hb:n+m≤140737488355328) (hbase:base≤w.heap.size)
 (h:∀ (A':Option Addr) (c':Nat) (w':World),n+m≤c'→w'.ownsRow base 5 1 (.slice A' (n+m) c') (n+m) (u8v (xs++ys))→Fr base u8K w w'→wpList Tryz.prog ops Q rest (a.put o.dst (.slice A' (n+m) c')) w'):wpList Tryz.prog ops Q (o::rest) a w:=by
 obtain⟨i0,hi0,hz0,hz1,hz2⟩:=info_parts u8_info;refine dH w hgd s x 25 ho base 5 i0 _ 1 Tryz.underlying25 hi0 hz0 hz1 hz2 rfl v n (u8v xs) hs hown A m c (u8v ys) hx (by rw[aC,hm]) hr (u8v_one ys) (by simp only[maxLen];omega) (by omega) hbase ?_;intro v' w' hown' hg
 have f5:Fr base u8K w w':=Fr.row hg hbase fun k hk=>⟨(World.ownsRow.lt hown k hk).1,fun o ho=>by
  rcases hown.2 with⟨rfl,-⟩|⟨g,cap,cur,rfl,-,hh,-⟩
  ·cases hk
  ·have:g=k:=by simpa[Value.ownBlock] using hk
   subst this;rw[hh]at ho;injection ho with ho;subst ho
   rfl⟩
 rw[←lC]at hown';obtain⟨A',c',rfl,hc',-,-,-,-⟩:=dL hown';exact h A' c' w' hc' hown' f5
theorem or128':∀ a:Fin 256,bits .or .u8 (a.val:Int) 128=((128+a.val%128:Nat):Int):=by decide +kernel
theorem or128(y:Nat):bits .or .u8 ((y:Int)%256) 128=(((UInt8.ofNat (128+y%128)).toNat:Nat):Int):=by
 have h:=or128' ⟨y%256,by omega⟩;simp only at h;rw[ofNat_toNat (by omega)]
 have e:((y%256:Nat):Int)=(y:Int)%256:=by omega
 rw[e]at h;rw[h];omega
set_option maxHeartbeats 1000000 in
theorem dC(base:Nat)(v:Value)(n:Nat)(xs:List UInt8)(x:Nat)(w:World)(h:w.ownsRow base 5 1 v n (u8v xs))(hx:x<128^9)(hn:n≤1000000000)(hb:base≤w.heap.size) :
 Calls Tryz.prog 23 #[v,.int .i64 x] w fun e w'=>∃ A c,e=.returned (.slice A (n+(num x).length) c)∧w'.ownsRow base 5 1 (.slice A (n+(num x).length) c) (n+(num x).length) (u8v (xs++num x))∧Fr base u8K w w':=by
 have H:=hide h;have HX:=hide hx;have HB:=hide hb;clear h hx hb
 go_enter Tryz.func23,Tryz.ntmps23
 go_wp2_with fail
 go_loopw [0,1] (fun b y wr=>∃ (m y':Nat) (ys:List UInt8),y=.int .i64 y'∧m≤9∧Hid (wr.ownsRow base 5 1 b (n+m) (u8v (xs++ys))∧ys.length=m∧y'<128^(9-m)∧ys++num y'=num x∧Fr base u8K w wr∧base≤wr.heap.size)) (fun _ y _=>(intOf y).toNat)
 case atStart=>exact⟨0,x,[],rfl,by omega,hide ⟨by simpa using H.out,rfl,HX.out,rfl,Fr.refl _ _ _,HB.out⟩⟩
 case round =>
  obtain⟨m,y,ys,rfl,hm,HS⟩:=hrel;by_cases hge:128≤y
  ·have hd:decide ((y:Int)≥128)=true:=by simp;omega
   have hyi:(128:Int)≤y:=by omega
   have hq:=or128 y;have hys:Hid (xs++(ys++[UInt8.ofNat (128+y%128)])=(xs++ys)++[UInt8.ofNat (128+y%128)]):=hide (by simp);have HOWN:=hide (HS.out.1.alloc (.cells #[.int .u8 ((UInt8.ofNat (128+y%128)).toNat:Nat)] 5));have HRD:=hide (Rd.one wr 5 (.int .u8 ((UInt8.ofNat (128+y%128)).toNat:Nat)))
   go_wp2_with (first
    |(refine iU _ rfl (.tmp 7) (.tmp 11) rfl base u0 (n+m) (xs++ys) rfl HOWN.out _ 1 1 [UInt8.ofNat (128+y%128)] rfl rfl HRD.out (by omega) (by have:=HS.out.2.2.2.2.2;simp;omega) ?_
      intro A' c' w' hc' hown' hb')
    |fail)
   have HL:Hid (n+m+1=n+(m+1)):=hide (by omega);have HN:Hid (wr.heap.size≤w'.heap.size):=hide (by have:=hb'.size;simp at this;omega);rw[HL.out]at hown'
   have hm8:m<9:=by
    rcases Nat.lt_or_ge m 9 with h|h
    ·exact h
    ·have h1:=HS.out.2.2.1
     have:9-m=0:=by omega
     rw[this]at h1;simp at h1;omega
   have HO':=hide hown';have HB':=hide hb';clear hown' hb'
   go_wp2_with fail
   go_roundw
   case rel =>
    refine⟨m+1,y / 128,ys++[UInt8.ofNat (128+y%128)],by go_num,by omega,hide ⟨by rw[hys.out];exact HO'.out,by rw[List.length_append,HS.out.2.1];rfl,?_,?_,?_,?_⟩⟩
    ·have h1:=HS.out.2.2.1
     have e:9-m=(9-(m+1))+1:=by omega
     rw[e]at h1;exact div_lt h1
    ·rw[←HS.out.2.2.2.1,lY (x:=y) (by omega),List.append_assoc];rfl
    ·exact(HS.out.2.2.2.2.1.alloc HS.out.2.2.2.2.2 _).trans HB'.out
    ·have:=HN.out;have:=HS.out.2.2.2.2.2;omega
   case measure=>simp[intOf];omega
  ·have hd:decide ((y:Int)≥128)=false:=by simp;omega
   have hys:Hid (xs++num x=(xs++ys)++[UInt8.ofNat y]):=hide (by rw[←HS.out.2.2.2.1,gU (x:=y) (by omega)];simp);have HLN:Hid ((num x).length=m+1):=hide (by rw[←HS.out.2.2.2.1,gU (x:=y) (by omega),List.length_append,HS.out.2.1];rfl);have HOWN:=hide (HS.out.1.alloc (.cells #[.int .u8 (y:Int)] 5))
   have HRD:Hid (Rd (wr.alloc (.cells #[.int .u8 (y:Int)] 5)) (some ⟨wr.heap.size,0,none⟩) (u8v [UInt8.ofNat y])):=hide (by
    have e:u8v [UInt8.ofNat y]=[.int .u8 (y:Int)]:=by simp only[u8v,List.map_cons,List.map_nil,ofNat_toNat (show y<256 by omega)]
    rw[e]
    exact Rd.one wr _ _)
   go_wp2_with (first
    |(refine iU _ rfl (.tmp 15) (.tmp 18) rfl base u0 (n+m) (xs++ys) rfl HOWN.out _ 1 1 [UInt8.ofNat y] rfl rfl HRD.out (by omega) (by have:=HS.out.2.2.2.2.2;simp;omega) ?_
      intro A' c' w' hc' hown' hb')
    |fail)
   go_ret
   rw[HLN.out,hys.out];exact⟨A',c',rfl,hown',(HS.out.2.2.2.2.1.alloc HS.out.2.2.2.2.2 _).trans hb'⟩
end RecW
namespace RecW
open RowKit Rec
abbrev E3:=Int×Int×Int
def RdE(w:World)(v:Value)(es:List E3):Prop :=
 ∃A c,v=.slice A es.length c∧∀ (i:Nat) e,es[i]? = some e→∃ b off,A=some ⟨b,off,none⟩∧w.cell? ⟨b,off+i*3,none⟩=some (.int .i64 e.1)∧w.cell? ⟨b,off+i*3+1,none⟩=some (.int .i64 e.2.1)∧w.cell? ⟨b,off+i*3+2,none⟩=some (.int .i64 e.2.2)
def RdB(w:World)(v:Value)(ls:List (List E3)):Prop :=
 ∃A c,v=.slice A ls.length c∧∀ (i:Nat) es,ls[i]? = some es→∃ b off ve,A=some ⟨b,off,none⟩∧w.cell? ⟨b,off+i,none⟩=some ve∧RdE w ve es
theorem RdE.below{w w':World}{v:Value}{es:List E3}(h:RdE w v es)(hb:Below w.heap.size w w'):RdE w' v es:=by
 obtain⟨A,c,hv,h⟩:=h;refine⟨A,c,hv,fun i e hi=>?_⟩;obtain⟨b,off,hA,a1,a2,a3⟩:=h i e hi;exact⟨b,off,hA,(hb.cell (World.block_lt_of_cell? w _ a1)).trans a1,(hb.cell (World.block_lt_of_cell? w _ a2)).trans a2,(hb.cell (World.block_lt_of_cell? w _ a3)).trans a3⟩
theorem RdB.below{w w':World}{v:Value}{ls:List (List E3)}(h:RdB w v ls)(hb:Below w.heap.size w w'):RdB w' v ls:=by
 obtain⟨A,c,hv,h⟩:=h;refine⟨A,c,hv,fun i e hi=>?_⟩;obtain⟨b,off,ve,hA,a1,a2⟩:=h i e hi;exact⟨b,off,ve,hA,(hb.cell (World.block_lt_of_cell? w _ a1)).trans a1,a2.below hb⟩
end RecW
namespace RecW
open RowKit Rec
def errR(k:Int):Value:=.iface 38 (.int .i64 k)
def inN(x:Int):Prop:=0≤x∧x≤4611686018427387904
instance (x:Int):Decidable (inN x):=by unfold inN;infer_instance
def okE3(e:E3):Prop:=inN e.1∧inN e.2.1∧inN e.2.2
instance (e:E3):Decidable (okE3 e):=by unfold okE3;infer_instance
def aN(es:List E3):Int:=if 64<es.length then 3 else if ∀e∈es,okE3 e then 0 else 1
theorem idx0(x y z:Int)(w:World):(Instr.index 101 (.agg #[.int .i64 x,.int .i64 y,.int .i64 z]) (.int .i64 0)).run Tryz.prog w=.ok (.int .i64 x) w:=by kernel_rfl
theorem idx1(x y z:Int)(w:World):(Instr.index 101 (.agg #[.int .i64 x,.int .i64 y,.int .i64 z]) (.int .i64 1)).run Tryz.prog w=.ok (.int .i64 y) w:=by kernel_rfl
theorem idx2(x y z:Int)(w:World):(Instr.index 101 (.agg #[.int .i64 x,.int .i64 y,.int .i64 z]) (.int .i64 2)).run Tryz.prog w=.ok (.int .i64 z) w:=by kernel_rfl
def FaultPost(w:World)(es:List E3)(e:Ending)(w':World):Prop:=Below w.heap.size w w'∧((aN es=0∧e=.returned .nilIface)∨(aN es≠0∧e=.returned (errR (aN es))))
set_option maxRecDepth 20000 in
set_option maxHeartbeats 4000000 in
theorem fault_any(v:Value)(es:List E3)(w:World)(h:RdE w v es):Calls Tryz.prog 22 #[v] w (FaultPost w es):=by
 obtain⟨A,c,rfl,h⟩:=h;have H:=hide h;obtain⟨n,hn⟩:∃ n,n=es.length:=⟨_,rfl⟩;have HN:=hide hn;rw[←hn];clear h hn;by_cases hbig:64<n
 ·have d1:decide ((n:Int)>64)=true:=by simp;omega
  have HF:Hid (aN es=3):=hide (by unfold aN;rw[if_pos (by rw[←HN.out];exact hbig)]);clear hbig
  go_enter Tryz.func22,Tryz.ntmps22
  go_wp2_with fail
  go_ret
  exact⟨Below.refl _ _,.inr ⟨by rw[HF.out];decide,by rw[HF.out];rfl⟩⟩
 have d1:decide ((n:Int)>64)=false:=by simp;omega
 have HF:Hid (aN es=if ∀e∈es,okE3 e then 0 else 1):=hide (by unfold aN;rw[if_neg (by rw[←HN.out];exact hbig)])
 go_enter Tryz.func22,Tryz.ntmps22
 go_wp2_with fail
 go_loopw [13] (fun i wr=>∃ j:Nat,j≤n∧i=.int .i64 j∧Hid (Below w.heap.size w wr∧∀ q e,q<j→es[q]? = some e→okE3 e)) (fun i _=>n-(intOf i).toNat)
 case atStart=>exact⟨0,by omega,rfl,hide ⟨Below.refl _ _,fun q e hq=>absurd hq (Nat.not_lt_zero q)⟩⟩
 case round =>
  obtain⟨j,hj,rfl,HS⟩:=hrel;by_cases hlt:j<n
  ·have hd1:decide ((j:Int)<(n:Int))=true:=by simp;omega
   have hji:(j:Int)<(n:Int):=by omega
   obtain⟨e,he⟩:∃ e,es[j]? = some e:=⟨es[j]'(by rw[←HN.out];exact hlt),List.getElem?_eq_getElem (by rw[←HN.out];exact hlt)⟩;obtain⟨b,off,rfl,a1,a2,a3⟩:=H.out j e he;have x1:=(HS.out.1.cell (World.block_lt_of_cell? w _ a1)).trans a1;have x2:=(HS.out.1.cell (World.block_lt_of_cell? w _ a2)).trans a2;have x3:=(HS.out.1.cell (World.block_lt_of_cell? w _ a3)).trans a3;have HE:=hide he;clear he a1 a2 a3;obtain⟨x,y,z⟩:=e;simp only at x1 x2 x3;have HB2:Hid (Below w.heap.size w (wr.alloc (.cells #[.int .i64 x,.int .i64 y,.int .i64 z] 64))):=hide (HS.out.1.trans ((Below.refl _ _).alloc HS.out.1.size _));have K:=Bk.new wr 64 #[.int .i64 x,.int .i64 y,.int .i64 z];have k1:=K.at_ (i:=0) (u:=.int .i64 x) rfl;have k2:=K.at_ (i:=1) (u:=.int .i64 y) rfl;have k3:=K.at_ (i:=2) (u:=.int .i64 z) rfl;clear K
   go_wp2_with fail
   generalize wr.alloc (.cells #[.int .i64 x,.int .i64 y,.int .i64 z] 64)=W2 at *
   go_loopw [24] (fun i wq=>∃ k:Nat,k≤3∧i=.int .i64 k∧wq=W2∧Hid ((0<k→inN x)∧(1<k→inN y)∧(2<k→inN z))) (fun i _=>3-(intOf i).toNat)
   case atStart=>exact⟨0,by omega,rfl,rfl,hide ⟨fun h=>absurd h (by omega),fun h=>absurd h (by omega),fun h=>absurd h (by omega)⟩⟩
   case round =>
    obtain⟨k,hk,rfl,rfl,HK⟩:=hrel
    obtain rfl|rfl|rfl|rfl:k=0∨k=1∨k=2∨k=3:=by omega
    ·have hix:=idx0 x y z wr;by_cases hin:inN x
     ·have HIN:=hide hin
      have d3:decide (x<0)=false:=decide_eq_false (by unfold inN at hin;omega);have d4:decide (x>4611686018427387904)=false:=decide_eq_false (by unfold inN at hin;omega);clear hin
      go_wp2_with fail
      go_roundw
      case rel=>exact⟨1,by omega,by go_num,by first|rfl|trivial,hide ⟨fun _=>HIN.out,fun h=>absurd h (by omega),fun h=>absurd h (by omega)⟩⟩
      case measure=>simp[intOf]
     ·have HBAD:Hid (aN es=1):=hide (by
       rw[HF.out,if_neg];intro hall
       exact hin ((hall _ (List.mem_of_getElem? HE.out)).1))
      by_cases hneg:x<0
      ·have d3:decide (x<0)=true:=decide_eq_true hneg;clear hin hneg
       go_wp2_with fail
       go_ret
       exact⟨HB2.out,.inr ⟨by rw[HBAD.out];decide,by rw[HBAD.out];rfl⟩⟩
      ·have d3:decide (x<0)=false:=decide_eq_false hneg
       have d4:decide (x>4611686018427387904)=true:=decide_eq_true (by unfold inN at hin;omega);clear hin hneg
       go_wp2_with fail
       go_ret
       exact⟨HB2.out,.inr ⟨by rw[HBAD.out];decide,by rw[HBAD.out];rfl⟩⟩
    ·have hix:=idx1 x y z wr;by_cases hin:inN y
     ·have HIN:=hide hin
      have d3:decide (y<0)=false:=decide_eq_false (by unfold inN at hin;omega);have d4:decide (y>4611686018427387904)=false:=decide_eq_false (by unfold inN at hin;omega);clear hin
      go_wp2_with fail
      go_roundw
      case rel=>exact⟨2,by omega,by go_num,by first|rfl|trivial,hide ⟨fun _=>HK.out.1 (by decide),fun _=>HIN.out,fun h=>absurd h (by omega)⟩⟩
      case measure=>simp[intOf]
     ·have HBAD:Hid (aN es=1):=hide (by
       rw[HF.out,if_neg];intro hall
       exact hin ((hall _ (List.mem_of_getElem? HE.out)).2.1))
      by_cases hneg:y<0
      ·have d3:decide (y<0)=true:=decide_eq_true hneg;clear hin hneg
       go_wp2_with fail
       go_ret
       exact⟨HB2.out,.inr ⟨by rw[HBAD.out];decide,by rw[HBAD.out];rfl⟩⟩
      ·have d3:decide (y<0)=false:=decide_eq_false hneg
       have d4:decide (y>4611686018427387904)=true:=decide_eq_true (by unfold inN at hin;omega);clear hin hneg
       go_wp2_with fail
       go_ret
       exact⟨HB2.out,.inr ⟨by rw[HBAD.out];decide,by rw[HBAD.out];rfl⟩⟩
    ·have hix:=idx2 x y z wr;by_cases hin:inN z
     ·have HIN:=hide hin
      have d3:decide (z<0)=false:=decide_eq_false (by unfold inN at hin;omega);have d4:decide (z>4611686018427387904)=false:=decide_eq_false (by unfold inN at hin;omega);clear hin
      go_wp2_with fail
      go_roundw
      case rel=>exact⟨3,by omega,by go_num,by first|rfl|trivial,hide ⟨fun _=>HK.out.1 (by decide),fun _=>HK.out.2.1 (by decide),fun _=>HIN.out⟩⟩
      case measure=>simp[intOf]
     ·have HBAD:Hid (aN es=1):=hide (by
       rw[HF.out,if_neg];intro hall
       exact hin ((hall _ (List.mem_of_getElem? HE.out)).2.2))
      by_cases hneg:z<0
      ·have d3:decide (z<0)=true:=decide_eq_true hneg;clear hin hneg
       go_wp2_with fail
       go_ret
       exact⟨HB2.out,.inr ⟨by rw[HBAD.out];decide,by rw[HBAD.out];rfl⟩⟩
      ·have d3:decide (z<0)=false:=decide_eq_false hneg
       have d4:decide (z>4611686018427387904)=true:=decide_eq_true (by unfold inN at hin;omega);clear hin hneg
       go_wp2_with fail
       go_ret
       exact⟨HB2.out,.inr ⟨by rw[HBAD.out];decide,by rw[HBAD.out];rfl⟩⟩
    ·have HJ:Hid (∀q e,q<j+1→es[q]? = some e→okE3 e):=hide (fun q e hq hqe=>by
      rcases Nat.lt_or_ge q j with h|h
      ·exact HS.out.2 q e h hqe
      ·have:q=j:=by omega
       subst this;rw[HE.out]at hqe;injection hqe with hqe;subst hqe
       exact⟨HK.out.1 (by decide),HK.out.2.1 (by decide),HK.out.2.2 (by decide)⟩)
     go_wp2_with fail
     go_roundw
     case rel=>exact⟨j+1,by omega,by go_num,hide ⟨HB2.out,HJ.out⟩⟩
     case measure=>simp[intOf];omega
  ·have hd1:decide ((j:Int)<(n:Int))=false:=by simp;omega
   have HF0:Hid (aN es=0):=hide (by
    rw[HF.out,if_pos];intro e he;obtain⟨q,hq,hqe⟩:=List.getElem_of_mem he
    exact HS.out.2 q e (by have:=HN.out;omega) (by rw[List.getElem?_eq_getElem hq,hqe]))
   go_wp2_with fail
   go_ret
   exact⟨HS.out.1,.inl ⟨HF0.out,rfl⟩⟩
end RecW
namespace RecW
open RowKit Rec
def toN(e:E3):Ent:=(e.1.toNat,e.2.1.toNat,e.2.2.toNat)
def natE(es:List E3):List Ent:=es.map toN
def natL(ls:List (List E3)):List (List Ent):=ls.map natE
theorem le4_cells(S:Nat)(h:S<4294967296):u8v (le4 S)=(#[.int .u8 ((S:Int)%256),.int .u8 ((S:Int) / 256%256),.int .u8 ((S:Int) / 65536%256),.int .u8 ((S:Int) / 16777216)]:Array Value).toList:=by
 simp only[le4,u8v,List.map_cons,List.map_nil,UInt8.toNat_ofNat']
 have e0:((S%2^8:Nat):Int)=(S:Int)%256:=by omega
 have e1:((S / 256%2^8:Nat):Int)=(S:Int) / 256%256:=by omega
 have e2:((S / 65536%2^8:Nat):Int)=(S:Int) / 65536%256:=by omega
 have e3:((S / 16777216%2^8:Nat):Int)=(S:Int) / 16777216:=by omega
 rw[e0,e1,e2,e3]
def WritePost(w:World)(ls:List (List E3))(e:Ending)(w':World):Prop :=
 Below w.heap.size w w'∧(((∀es∈ls,aN es=0)∧∃ A c,e=.returned (.tuple #[.slice A (flat (natL ls)).length c,.nilIface])∧w'.ownsRow w.heap.size 5 1 (.slice A (flat (natL ls)).length c) (flat (natL ls)).length (u8v (flat (natL ls)))) ∨
  (∃pre es,(∀x∈pre,aN x=0)∧pre++[es] <+: ls∧aN es≠0∧e=.returned (.tuple #[.slice none 0 0,errR (aN es)])))
structure WS(w W:World)(ls:List (List E3))(i:Nat)(o:Value):Prop where
 own:W.ownsRow w.heap.size 5 1 o (flat (natL (ls.take i))).length (u8v (flat (natL (ls.take i))))
 ok:∀ es∈ls.take i,aN es=0
 low:Below w.heap.size w W
set_option maxRecDepth 20000 in
set_option maxHeartbeats 8000000 in
theorem write_any(v:Value)(ls:List (List E3))(w:World)(h:RdB w v ls)(hl:ls.length≤1000000000)(hsz:∀ i,(∀es∈ls.take i,aN es=0)→(flat (natL (ls.take i))).length≤100000000):Calls Tryz.prog 6 #[v] w (WritePost w ls):=by
 obtain⟨A,c,rfl,h⟩:=h;have H:=hide h;obtain⟨n,hn⟩:∃ n,n=ls.length:=⟨_,rfl⟩;have HN:=hide hn;have HSZ:=hide hsz;rw[←hn]at hl⊢;clear h hn hsz
 go_enter Tryz.func6,Tryz.ntmps6
 go_wp2_with fail
 go_loopw [4,14] (fun o i wr=>∃ i':Nat,i'≤n∧i=.int .i64 i'∧Hid (WS w wr ls i' o)) (fun _ i _=>n-(intOf i).toNat)
 case atStart=>exact⟨0,by omega,rfl,hide ⟨⟨rfl,.inl ⟨rfl,rfl⟩⟩,(fun es he=>by cases he),Below.refl _ _⟩⟩
 case round =>
  obtain⟨i,hi,rfl,HS⟩:=hrel;by_cases hlt:i<n
  ·have hd1:decide ((i:Int)<(n:Int))=true:=by simp;omega
   have hii:(i:Int)<(n:Int):=by omega
   obtain⟨es,hes⟩:∃ es,ls[i]? = some es:=⟨ls[i]'(by rw[←HN.out];exact hlt),List.getElem?_eq_getElem (by rw[←HN.out];exact hlt)⟩;obtain⟨b,off,ve,rfl,a1,e1⟩:=H.out i es hes;have x1:=(HS.out.low.cell (World.block_lt_of_cell? w _ a1)).trans a1;have HV:=hide (e1.below (HS.out.low.mono (Nat.le_refl _)));have HES:=hide hes;have HFT:=hide (fault_any ve es wr HV.out);clear hes a1 e1
   go_wp2_with fail
   refine HFT.out.mono ?_;rintro e w3 ⟨hb3,⟨hf0,rfl⟩|⟨hf1,rfl⟩⟩
   ·have HF0:=hide hf0
    have HSZI:Hid ((flat (natL (ls.take (i+1)))).length≤100000000):=hide (HSZ.out (i+1) fun x hx=>by
     rw[List.take_add_one,HES.out]at hx;rcases List.mem_append.1 hx with hx|hx
     ·exact HS.out.ok x hx
     ·simp at hx;subst hx
      exact hf0)
    have HB3:=hide hb3;obtain⟨Ae,ce,rfl,hcells⟩:=HV.out
    have hm64:es.length≤64:=by
     unfold aN at hf0;by_cases h:64<es.length
     ·rw[if_pos h]at hf0;cases hf0
     ·omega
    have HOKE:Hid (∀e∈es,okE3 e):=hide (by
     unfold aN at hf0;rw[if_neg (by omega)]at hf0;by_cases h:∀ e∈es,okE3 e
     ·exact h
     ·rw[if_neg h]at hf0;cases hf0)
    have HC:=hide hcells;obtain⟨m,hm⟩:∃ m,m=es.length:=⟨_,rfl⟩;have HM:=hide hm;rw[←hm]at hm64⊢;rw[←hm]at x1;have HNUM:=hide (dC w3.heap.size (.slice none 0 0) 0 [] m w3 ⟨rfl,.inl ⟨rfl,rfl⟩⟩ (by omega) (by omega) (Nat.le_refl _));clear hf0 hb3 hcells hm
    go_wp2_with fail
    refine HNUM.out.mono ?_;rintro e w4 ⟨A4,c4,rfl,ho4,hf4⟩;rw[Nat.zero_add,List.nil_append]at ho4;have HO4:=hide ho4;have HF4:=hide hf4;clear ho4 hf4 HNUM
    go_wp2_with fail
    generalize hbs:w3.heap.size=bs at *;have HBS:=hide hbs;clear hbs
    go_loopw [8,28] (fun bv j wq=>∃ (j' k:Nat) (ys:List UInt8),j'≤m∧j=.int .i64 j'∧Hid (wq.ownsRow bs 5 1 bv k (u8v ys)∧k=ys.length∧ys=num m++Rec.ents (natE (es.take j'))∧Below bs w3 wq)) (fun _ j _=>m-(intOf j).toNat)
    case atStart=>exact⟨0,_,num m,by omega,rfl,hide ⟨HO4.out,rfl,by simp[natE,Rec.ents],HF4.out.low⟩⟩
    case round =>
     obtain⟨j,k,ys,hj,rfl,HI⟩:=hrel;by_cases hlt2:j<m
     ·have hd2:decide ((j:Int)<(m:Int))=true:=by simp;omega
      have hji:(j:Int)<(m:Int):=by omega
      obtain⟨e,he⟩:∃ e,es[j]? = some e:=⟨es[j]'(by rw[←HM.out];exact hlt2),List.getElem?_eq_getElem (by rw[←HM.out];exact hlt2)⟩;have hre:RdE wr (.slice Ae es.length ce) es:=(HV.out.below HB3.out).below (HBS.out▸HI.out.2.2.2);obtain⟨A9,c9,hA9,hcl⟩:=hre
      obtain⟨rfl,rfl⟩:Ae=A9∧ce=c9:=by injection hA9 with h1 h2 h3;exact⟨h1,h3⟩
      clear hA9;obtain⟨be,oe,rfl,k1,k2,k3⟩:=hcl j e he;have hok:=HOKE.out e (List.mem_of_getElem? he);obtain⟨ex,ey,ez⟩:=e;unfold okE3 inN at hok;simp only at hok k1 k2 k3;obtain⟨x,rfl⟩:∃ x:Nat,ex=x:=⟨ex.toNat,by omega⟩;obtain⟨y,rfl⟩:∃ y:Nat,ey=y:=⟨ey.toNat,by omega⟩;obtain⟨z,rfl⟩:∃ z:Nat,ez=z:=⟨ez.toNat,by omega⟩;have HXYZ:Hid (x<128^9∧y<128^9∧z<128^9):=hide ⟨by omega,by omega,by omega⟩
      have HYS:Hid (ys.length≤100000000):=hide (by
       have h1:=HSZI.out
       have h2:ls.take (i+1)=ls.take i++[es]:=by rw[List.take_add_one,HES.out];rfl
       rw[h2]at h1
       have h3:flat (natL (ls.take i++[es]))=flat (natL (ls.take i))++bat (natE es):=by simp[natL,flat_append,flat]
       rw[h3,List.length_append]at h1
       have h4:natE es=natE (es.take j)++natE (es.drop j):=by rw[natE,natE,natE,←List.map_append,List.take_append_drop]
       have h5:(bat (natE es)).length=(num m).length+(Rec.ents (natE (es.take j))).length+(Rec.ents (natE (es.drop j))).length+4:=by
        have h6:(Rec.ents (natE es)).length=(Rec.ents (natE (es.take j))).length+(Rec.ents (natE (es.drop j))).length:=by rw[h4,jP,List.length_append]
        have h7:(natE es).length=m:=by rw[natE,List.length_map,HM.out]
        rw[bat,List.length_append,sum_len,body,List.length_append,h7,h6];omega
       rw[HI.out.2.2.1,List.length_append]
       omega)
      have HJE:Hid (natE (es.take (j+1))=natE (es.take j)++[(x,y,z)]):=hide (by
       rw[List.take_add_one,he,natE,List.map_append]
       simp[natE,toN])
      have hbw:bs≤wr.heap.size:=by have:=HI.out.2.2.2.size;have:=HBS.out;omega
      have K0:=Bk.new wr 64 #[.int .i64 (x:Int),.int .i64 (y:Int),.int .i64 (z:Int)];have HK0:=hide K0.drew;have HOW:=hide ((HI.out.1.alloc (.cells #[.int .i64 (x:Int),.int .i64 (y:Int),.int .i64 (z:Int)] 64)));have HLB:Hid (bs≤(wr.alloc (.cells #[.int .i64 (x:Int),.int .i64 (y:Int),.int .i64 (z:Int)] 64)).heap.size):=hide (by simp;omega);have HBA:Hid (Below bs w3 (wr.alloc (.cells #[.int .i64 (x:Int),.int .i64 (y:Int),.int .i64 (z:Int)] 64))):=hide (HI.out.2.2.2.trans ((Below.refl _ _).alloc hbw _));clear hcl hok he hbw K0
      go_wp2_with fail
      generalize hW2:wr.alloc (.cells #[.int .i64 (x:Int),.int .i64 (y:Int),.int .i64 (z:Int)] 64)=W2 at *;clear hW2;generalize wr.heap.size=gb at *;have y1:=HK0.out.at_ (i:=0) (u:=.int .i64 (x:Int)) rfl;have y2:=HK0.out.at_ (i:=1) (u:=.int .i64 (y:Int)) rfl;have y3:=HK0.out.at_ (i:=2) (u:=.int .i64 (z:Int)) rfl;have HN1:=hide (dC bs u8 k ys x W2.drew (by exact HOW.out) HXYZ.out.1 (by have:=HI.out.2.1;have:=HYS.out;omega) HLB.out);have HKX:=HK0
      go_region_held3 (fun w'=>w'.cell? ⟨gb,0,none⟩=some (.int .i64 (x:Int))∧w'.cell? ⟨gb,1,none⟩=some (.int .i64 (y:Int))∧w'.cell? ⟨gb,2,none⟩=some (.int .i64 (z:Int)))
       (first|exact⟨y1,y2,y3⟩|exact⟨s1,s2,s3⟩|exact⟨t1,t2,t3⟩|exact⟨r1,r2,r3⟩)
       (first
        |(go_at_call 23
          with_reducible refine HN1.out.mono ?_
          rintro e5 W5 ⟨A5,c5,rfl,ho5,hf5⟩;have hk5:=hf5.bk HK0.out (by simp only[u8K];decide);have s1:=hk5.at_ (i:=0) (u:=.int .i64 (x:Int)) rfl;have s2:=hk5.at_ (i:=1) (u:=.int .i64 (y:Int)) rfl;have s3:=hk5.at_ (i:=2) (u:=.int .i64 (z:Int)) rfl;have HK5:=hide hk5;have HF5:=hide hf5;have HN2:=hide (dC bs _ _ _ y W5 ho5 HXYZ.out.2.1 (by have:=HI.out.2.1;have:=HYS.out;have:=num_len_le 9 x HXYZ.out.1 (by omega);omega) (Nat.le_trans HLB.out hf5.size))
          clear ho5 hf5 hk5)
        |(go_at_call 23
          with_reducible refine HN2.out.mono ?_
          rintro e6 W6 ⟨A6,c6,rfl,ho6,hf6⟩;have hk6:=hf6.bk HK5.out (by simp only[u8K];decide);have t1:=hk6.at_ (i:=0) (u:=.int .i64 (x:Int)) rfl;have t2:=hk6.at_ (i:=1) (u:=.int .i64 (y:Int)) rfl;have t3:=hk6.at_ (i:=2) (u:=.int .i64 (z:Int)) rfl;have HK6:=hide hk6;have HF6:=hide hf6;have HN3:=hide (dC bs _ _ _ z W6 ho6 HXYZ.out.2.2 (by have:=HI.out.2.1;have:=HYS.out;have:=num_len_le 9 x HXYZ.out.1 (by omega);have:=num_len_le 9 y HXYZ.out.2.1 (by omega);omega) (Nat.le_trans (Nat.le_trans HLB.out HF5.out.size) hf6.size))
          clear ho6 hf6 hk6)
        |(go_at_call 23
          with_reducible refine HN3.out.mono ?_
          rintro e7 W7 ⟨A7,c7,rfl,ho7,hf7⟩;have hk7:=hf7.bk HK6.out (by simp only[u8K];decide);have r1:=hk7.at_ (i:=0) (u:=.int .i64 (x:Int)) rfl;have r2:=hk7.at_ (i:=1) (u:=.int .i64 (y:Int)) rfl;have r3:=hk7.at_ (i:=2) (u:=.int .i64 (z:Int)) rfl;have HO7:=hide ho7;have HF7:=hide hf7
          clear ho7 hf7 hk7))
      all_goals go_wp2_with fail
      all_goals go_roundw
      all_goals try (simp[intOf];omega;done)
      all_goals (
       have HYE:((ys++num x)++num y)++num z=num m++Rec.ents (natE (es.take (j+1))):=by
        rw[HJE.out,jP,HI.out.2.2.1];simp[Rec.ents,ent]
       refine⟨j+1,k+(num x).length+(num y).length+(num z).length,((ys++num x)++num y)++num z,by omega,by go_num,hide ⟨HO7.out,?_,HYE,((HBA.out.drew.trans HF5.out.low).trans HF6.out.low).trans HF7.out.low⟩⟩
       rw[List.length_append,List.length_append,List.length_append,HI.out.2.1])
     ·have hd2:decide ((j:Int)<(m:Int))=false:=by simp;omega
      have hjm:j=m:=by omega
      have HBODY:Hid (ys=body (natE es)):=hide (by
       have h1:es.take j=es:=List.take_of_length_le (by have:=HM.out;omega)
       have h2:(natE es).length=m:=by rw[natE,List.length_map,HM.out]
       rw[HI.out.2.2.1,h1,body,h2])
      have HROOM:Hid ((flat (natL (ls.take i))).length+ys.length+4≤100000000):=hide (by
       have h1:=HSZI.out
       have h2:ls.take (i+1)=ls.take i++[es]:=by rw[List.take_add_one,HES.out];rfl
       rw[h2]at h1
       have h3:flat (natL (ls.take i++[es]))=flat (natL (ls.take i))++bat (natE es):=by simp[natL,flat_append,flat]
       rw[h3,List.length_append,bat,List.length_append,sum_len,←HBODY.out]at h1
       omega)
      obtain⟨A8,c8,hv8,-,-,hrd8,-,-⟩:=dL HI.out.1;subst hv8;have HRB:=hide hrd8;have HKL:=hide HI.out.2.1;obtain⟨S,hS⟩:∃ S,S=(Crc.crc ys).toNat:=⟨_,rfl⟩;have HSS:=hide hS
      have hS32:S<4294967296:=by rw[hS];exact(Crc.crc ys).isLt
      have HCRC:=hide (CrcW.crc_any A8 ys k c8 wr HKL.out (by have:=HKL.out;have:=HROOM.out;omega) HRB.out);rw[←hS]at HCRC;have hw3:Below bs w3 wr:=HI.out.2.2.2;have HLOW:=hide ((HS.out.low.trans (HB3.out.mono HS.out.low.size)).trans (hw3.mono (by have:=HBS.out;have:=HS.out.low.size;have:=HB3.out.size;omega)));have HOUT:=hide (own_below (own_below HS.out.own HB3.out (Nat.le_refl _)) hw3 (Nat.le_of_eq HBS.out));have HSZW:Hid (w.heap.size≤wr.heap.size):=hide HLOW.out.size;obtain⟨q0,hq0⟩:∃ q,q=UInt8.ofNat S:=⟨_,rfl⟩;clear hjm hrd8 hS hw3
      go_wp2_with (first
       |(go_at_call 24
         refine HCRC.out.mono ?_
         rintro e w5 ⟨rfl,rfl⟩)
       |(refine iU _ rfl (.tmp 45) (.tmp 46) rfl w.heap.size u4 (flat (natL (ls.take i))).length (flat (natL (ls.take i))) rfl HOUT.out A8 k c8 ys rfl HKL.out HRB.out (by have:=HKL.out;have:=HROOM.out;omega) HSZW.out ?_
         intro A10 c10 w10 hc10 ho10 hf10;have HF10:=hide hf10;have HRD4:Hid (Rd (w10.alloc (.cells #[.int .u8 ((S:Int)%256),.int .u8 ((S:Int) / 256%256),.int .u8 ((S:Int) / 65536%256),.int .u8 ((S:Int) / 16777216)] 5)) (some ⟨w10.heap.size,0,none⟩) (u8v (le4 S))):=hide (Rd.new w10 _ _ _ _ _ rfl (le4_cells S hS32));have HO10:=hide (ho10.alloc (.cells #[.int .u8 ((S:Int)%256),.int .u8 ((S:Int) / 256%256),.int .u8 ((S:Int) / 65536%256),.int .u8 ((S:Int) / 16777216)] 5));have HS10:Hid (w.heap.size≤(w10.alloc (.cells #[.int .u8 ((S:Int)%256),.int .u8 ((S:Int) / 256%256),.int .u8 ((S:Int) / 65536%256),.int .u8 ((S:Int) / 16777216)] 5)).heap.size):=hide (by have:=HSZW.out;have:=hf10.size;simp;omega);have HL10:=hide ((HLOW.out.trans hf10.low).trans ((Below.refl _ _).alloc (Nat.le_trans HSZW.out hf10.size) (.cells #[.int .u8 ((S:Int)%256),.int .u8 ((S:Int) / 256%256),.int .u8 ((S:Int) / 65536%256),.int .u8 ((S:Int) / 16777216)] 5)))
         clear ho10 hf10)
       |(refine iU _ rfl (.tmp 48) (.tmp 60) rfl w.heap.size _ ((flat (natL (ls.take i))).length+k) (flat (natL (ls.take i))++ys) rfl HO10.out (some ⟨w10.heap.size,0,none⟩) 4 4 (le4 S) rfl rfl HRD4.out (by have:=HKL.out;have:=HROOM.out;omega) HS10.out ?_
         intro A11 c11 w11 hc11 ho11 hf11;have HO11:=hide ho11;have HF11:=hide hf11
         clear ho11 hf11)
       |fail)
      all_goals go_roundw
      all_goals try (simp[intOf];omega;done)
      all_goals (
       have HFL:flat (natL (ls.take (i+1)))=(flat (natL (ls.take i))++ys)++le4 S:=by
        have h2:ls.take (i+1)=ls.take i++[es]:=by rw[List.take_add_one,HES.out];rfl
        have h3:flat (natL (ls.take i++[es]))=flat (natL (ls.take i))++bat (natE es):=by simp[natL,flat_append,flat]
        rw[h2,h3,bat,←HBODY.out,sum,←HSS.out,List.append_assoc]
       have HFN:(flat (natL (ls.take i))).length+k+4=(flat (natL (ls.take (i+1)))).length:=by
        rw[HFL,List.length_append,List.length_append,HKL.out];rfl
       refine⟨i+1,by omega,by go_num,hide ⟨?_,?_,HL10.out.trans HF11.out.low⟩⟩
       ·have h:=HO11.out;rw[←HFL,HFN]at h;rw[HFN];exact h
       ·intro q hq
        have h2:ls.take (i+1)=ls.take i++[es]:=by rw[List.take_add_one,HES.out];rfl
        rw[h2]at hq;rcases List.mem_append.1 hq with hq|hq
        ·exact HS.out.ok q hq
        ·have:q=es:=by simpa using hq
         rw[this];exact HF0.out)
   ·have HF1:=hide hf1;have HB3:=hide hb3;clear hf1 hb3;unfold errR
    go_wp2_with fail
    go_ret2
    refine⟨HS.out.low.trans (HB3.out.mono HS.out.low.size),.inr ⟨ls.take i,es,HS.out.ok,?_,HF1.out,rfl⟩⟩
    have:ls.take i++[es]=ls.take (i+1):=by rw[List.take_add_one,HES.out];rfl
    rw[this];exact List.take_prefix _ _
  ·have hd1:decide ((i:Int)<(n:Int))=false:=by simp;omega
   have HT:Hid (ls.take i=ls):=hide (List.take_of_length_le (by have:=HN.out;omega));obtain⟨Ao,co,ho,-⟩:=dL HS.out.own;subst ho
   go_wp2_with fail
   go_ret2
   have hok:=HS.out.ok;rw[HT.out]at hok;have hown:=HS.out.own;rw[HT.out]at hown;exact⟨HS.out.low,.inl ⟨hok,Ao,co,by simp only[HT.out];rfl,hown⟩⟩
end RecW
namespace BufW
open RowKit I64
def ptr(x:Nat):Value:=.pointer (some ⟨x,0,none⟩)
def Data(w:World)(B:Nat)(l:List UInt8)(A:Option Addr)(c:Nat):Prop:=l.length≤c∧l.length≤140737488351232∧(l=[]∨Dt w B 5 A)∧Rd w A (u8v l)
section
variable {w w':World}{B:Nat}{l:List UInt8}{A:Option Addr}{c:Nat}
theorem Data.fr{T:Obj→Prop}(h:Data w B l A c)(hf:Fr B T w w')(hT:∀ cs r,¬T (.cells cs 5 r)):Data w' B l A c:=⟨h.1,h.2.1,h.2.2.1.imp id (fun d=>d.fr hf hT),by rcases h.2.2.1 with rfl|d;exact .inl rfl;exact d.rd h.2.2.2 hf hT⟩
end
def never:Obj→Prop:=fun _=>False
end BufW
section
open RowKit
end
namespace RecW
open RowKit Rec BufW
def shortV:Value:=.iface 105 (.agg #[])
def shortP:List PanicEntry:=[{v:=shortV,recovered:=false}]
structure Rdr(w:World)(B rb:Nat)(A:Option Addr)(c:Nat)(l:List UInt8)(at_:Nat):Prop where
 bk:Bk w rb 77 #[.slice A l.length c,.int .i64 at_]
 low:B≤rb
 src:BufW.Data w B l A c
def rdrT:Obj→Prop
 |.cells _ t _=>t=77
 |_=>False
theorem Rdr.fr{w w':World}{B rb at_:Nat}{A:Option Addr}{c:Nat}{l:List UInt8}{T:Obj→Prop}(h:Rdr w B rb A c l at_)(hf:Fr B T w w')(h1:∀ cs r,¬T (.cells cs 77 r))(h2:∀ cs r,¬T (.cells cs 5 r)):Rdr w' B rb A c l at_ :=
 ⟨hf.bk h.bk (h1 _ _),h.low,h.src.fr hf h2⟩
theorem Rdr.at_{w:World}{B rb a a':Nat}{A:Option Addr}{c:Nat}{l:List UInt8}(h:Rdr w B rb A c l a) :
 Rdr (w.setCell ⟨rb,1,none⟩ (.int .i64 a')) B rb A c l a'∧Fr B rdrT w (w.setCell ⟨rb,1,none⟩ (.int .i64 a')):=by
 have f:=Fr.set (T:=rdrT) (p:=⟨rb,1,none⟩) h.bk h.low rfl (.int .i64 a');exact⟨⟨h.bk.put 1 _,h.low,h.src.fr f (fun cs r=>by simp only[rdrT];decide)⟩,f⟩
theorem Rdr.drewN{w:World}{B rb a:Nat}{A:Option Addr}{c:Nat}{l:List UInt8}(h:Rdr w B rb A c l a)(d:Nat):Rdr (w.drewN d) B rb A c l a:=⟨h.bk,h.low,h.src⟩
theorem fr_drewN{B:Nat}{T:Obj→Prop}{a w:World}(h:Fr B T a w)(d:Nat):Fr B T a (w.drewN d):=⟨below_drewN h.low d,h.keep⟩
set_option maxHeartbeats 1000000 in
theorem byte_ok(B rb:Nat)(A:Option Addr)(c:Nat)(l:List UInt8)(a:Nat)(w:World)(h:Rdr w B rb A c l a)(x:UInt8)(hx:l[a]? = some x) :
 Calls Tryz.prog 46 #[ptr rb] w fun e w'=>e=.returned (.int .u8 x.toNat)∧Rdr w' B rb A c l (a+1)∧Fr B rdrT w w':=by
 have hlt:=(List.getElem?_eq_some_iff.1 hx).1;have r0:=h.bk.at_ (i:=0) (u:=.slice A l.length c) rfl;have r1:=h.bk.at_ (i:=1) (u:=.int .i64 a) rfl;have hfz:=h.bk.free 1;obtain⟨b,off,rfl,-,hc⟩:=h.src.2.2.2.form (by rw[aC];omega);have hcx:=hc a (by rw[aC];exact hlt)
 have e1:(u8v l)[a]'(by rw[aC];exact hlt)=.int .u8 x.toNat:=by
  have:l[a]=x:=by rw[List.getElem?_eq_getElem hlt]at hx;exact Option.some.inj hx
  simp only[u8v,List.getElem_map,this]
 rw[e1]at hcx
 have hbne:b≠rb:=by
  rintro rfl;rcases h.src.2.2.1 with h0|h0
  ·subst h0;simp at hlt
  ·rcases h0 _ rfl with h1|⟨cs,r,h1⟩
   ·have:=h.low;simp only at h1;omega
   ·have h2:=h.bk;unfold Bk at h2;simp only at h1;rw[h2]at h1;injection h1 with h1;injection h1 with _ h1;exact absurd h1 (by decide)
 have hcap:=h.src.2.1;obtain⟨n,hn⟩:∃ n,n=l.length:=⟨_,rfl⟩;have HN:=hide hn;rw[←hn]at r0 hlt hcap;have H:=hide h
 have hd:decide ((a:Int)≥(n:Int))=false:=by simp;omega
 have hlti:(a:Int)<(n:Int):=by omega
 clear hc h hx e1 hn;unfold ptr
 go_enter Tryz.func46,Tryz.ntmps46
 go_wp2_with fail
 go_quiet (fail)
 go_wp2_with fail
 have e2:((a:Int)+1)=((a+1:Nat):Int):=by omega
 have hat:=(H.out.drewN nq).at_ (a':=a+1);rw[←e2]at hat;have s0:=hat.1.bk.at_ (i:=0) (u:=.slice (some ⟨b,off,none⟩) n c) (by rw[HN.out];rfl)
 have s1:((w.drewN nq).setCell ⟨rb,1,none⟩ (.int .i64 ((a:Int)+1))).cell? ⟨rb,1,none⟩=some (.int .i64 ((a:Int)+1)):=by
  rw[e2];exact hat.1.bk.at_ (i:=1) rfl
 have s2:((w.drewN nq).setCell ⟨rb,1,none⟩ (.int .i64 ((a:Int)+1))).cell? ⟨b,off+a,none⟩=some (.int .u8 x.toNat):=by
  rw[World.cell?_of_block (w:=w.drewN nq) (Below.heap_setCell (w.drewN nq) ⟨rb,1,none⟩ _ b hbne)];exact hcx
 have HAT:=hide hat;clear hat e2 r0 r1 hcx;generalize (w.drewN nq).setCell ⟨rb,1,none⟩ (.int .i64 ((a:Int)+1))=W2 at *
 go_quiet (fail)
 go_wp2_with fail
 go_ret
 exact⟨rfl,HAT.out.1.drewN _,fr_drewN ((fr_drewN (Fr.refl B rdrT w) _).trans HAT.out.2) _⟩
set_option maxHeartbeats 1000000 in
theorem byte_short(B rb:Nat)(A:Option Addr)(c:Nat)(l:List UInt8)(a:Nat)(w:World)(h:Rdr w B rb A c l a)(hx:l.length≤a) :
 Calls Tryz.prog 46 #[ptr rb] w fun e w'=>e=.panicked shortP∧∃ d,w'=w.drewN d:=by
 have r0:=h.bk.at_ (i:=0) (u:=.slice A l.length c) rfl;have r1:=h.bk.at_ (i:=1) (u:=.int .i64 a) rfl;obtain⟨n,hn⟩:∃ n,n=l.length:=⟨_,rfl⟩;rw[←hn]at r0 hx
 have hd:decide ((a:Int)≥(n:Int))=true:=by simp;omega
 clear h hn;unfold ptr
 go_enter Tryz.func46,Tryz.ntmps46
 go_wp2_with fail
 go_quiet (fail)
 go_wp2_with fail
 exact⟨rfl,rfl,⟨_,rfl⟩⟩
theorem and127':∀ a:Fin 256,bits .and .u8 (a.val:Int) 127=((a.val%128:Nat):Int):=by decide +kernel
theorem and127(b:UInt8):bits .and .u8 (b.toNat:Int) 127=((b.toNat%128:Nat):Int):=and127' ⟨b.toNat,b.toNat_lt⟩
theorem wrap_small(t:Nat)(h:t<9223372036854775808):wrap64 (t:Int)=(t:Int):=by unfold wrap64;omega
theorem or_add'(p q:Nat)(h:p ||| q=p+q)(hl:p+q<9223372036854775808):bits .or .i64 (p:Int) (q:Int)=((p+q:Nat):Int):=by
 have e:∀ k:Nat,k<9223372036854775808→(BitVec.ofInt 64 (k:Int)).toNat=k:=fun k hk=>by
  rw[BitVec.ofInt_natCast,BitVec.toNat_ofNat];exact Nat.mod_eq_of_lt (by omega)
 show IntKind.i64.wrap ((BitVec.ofInt 64 (p:Int) ||| BitVec.ofInt 64 (q:Int)).toNat:Int)=_;rw[BitVec.toNat_or,e p (by omega),e q (by omega),h,IntKind.wrap_i64];omega
theorem or_add(p t k:Nat)(hp:p<2^k)(hl:p+t*2^k<9223372036854775808):bits .or .i64 (p:Int) ((t*2^k:Nat):Int)=((p+t*2^k:Nat):Int):=by
 refine or_add' p (t*2^k) ?_ hl;rw[Nat.or_comm,Nat.mul_comm t,←Nat.two_pow_add_eq_or_of_lt hp,Nat.add_comm]
def dY(w:World)(B rb:Nat)(A:Option Addr)(c:Nat)(l:List UInt8)(a:Nat)(e:Ending)(w':World):Prop :=
 Fr B rdrT w w'∧(∀x rest,dec (l.drop a)=some (x,rest)→e=.returned (.int .i64 x)∧Rdr w' B rb A c l (l.length-rest.length))∧(dec (l.drop a)=none→e=.panicked shortP∧∃ a',Rdr w' B rb A c l a')
theorem dY.bad{w w':World}{B rb c a a':Nat}{A:Option Addr}{l:List UInt8}(hn:dec (l.drop a)=none)(hf:Fr B rdrT w w')(hr:Rdr w' B rb A c l a'):dY w B rb A c l a (.panicked shortP) w' :=
 ⟨hf,fun x rest hx=>(by rw[hn]at hx;cases hx),fun _=>⟨rfl,a',hr⟩⟩
theorem dY.good{w w':World}{B rb c a x:Nat}{A:Option Addr}{l rest:List UInt8}(hn:dec (l.drop a)=some (x,rest))(hf:Fr B rdrT w w')(hr:Rdr w' B rb A c l (l.length-rest.length)):dY w B rb A c l a (.returned (.int .i64 x)) w' :=
 ⟨hf,fun x' rest' hx=>(by rw[hn]at hx;injection hx with hx;injection hx with h1 h2;subst h1 h2;exact⟨rfl,hr⟩),fun h=>(by rw[hn]at h;cases h)⟩
theorem drop_some{l:List UInt8}{k:Nat}{b:UInt8}(h:l[k]? = some b):l.drop k=b::l.drop (k+1):=by
 obtain⟨hk,hb⟩:=List.getElem?_eq_some_iff.1 h;rw[←hb,List.drop_eq_getElem_cons hk]
set_option maxRecDepth 20000 in
set_option maxHeartbeats 2000000 in
theorem dE(B rb:Nat)(A:Option Addr)(c:Nat)(l:List UInt8)(a:Nat)(w:World)(h:Rdr w B rb A c l a)(ha:a≤l.length) :
 Calls Tryz.prog 45 #[ptr rb] w (dY w B rb A c l a):=by
 have H:=hide h;have HA:=hide ha;clear h ha;unfold ptr
 go_enter Tryz.func45,Tryz.ntmps45
 go_wp2_with fail
 go_loopw [3,6] (fun x i wr=>∃ (i' p:Nat),i'≤9∧i=.int .i64 i'∧x=.int .i64 p∧Hid (p<128^i'∧a+i'≤l.length∧decF 9 true (l.drop a)=(decF (9-i') (i'==0) (l.drop (a+i'))).map (fun q=>(p+128^i'*q.1,q.2))∧Rdr wr B rb A c l (a+i')∧Fr B rdrT w wr)) (fun _ i _=>9-(intOf i).toNat)
 case atStart=>exact⟨0,0,by omega,rfl,rfl,hide ⟨by decide,by simpa using HA.out,by simp,by simpa using H.out,Fr.refl _ _ _⟩⟩
 case round =>
  obtain⟨i,p,hi,rfl,rfl,HS⟩:=hrel;by_cases hlt:i<9
  ·have hd1:decide ((i:Int)<9)=true:=by simp;omega
   cases hb:l[a+i]? with
   |none =>
    have HB:=hide (byte_short B rb A c l (a+i) wr HS.out.2.2.2.1 (by rw[List.getElem?_eq_none_iff]at hb;exact hb))
    have HN:Hid (dec (l.drop a)=none):=hide (by
     have h1:=HS.out.2.2.1;rw[List.getElem?_eq_none_iff]at hb;rw[List.drop_of_length_le (by omega:l.length≤a+i)]at h1
     have h2:decF (9-i) (i==0) []=none:=by
      obtain⟨q,hq⟩:∃ q,9-i=q+1:=⟨8-i,by omega⟩;rw[hq];rfl
     rw[h2]at h1;unfold dec
     rw[h1];rfl)
    unfold ptr at HB;clear hb
    go_wp2_with (first
     |(go_at_call 46
       refine HB.out.mono ?_
       rintro e w1 ⟨rfl,d,rfl⟩)
     |fail)
    exact⟨rfl,dY.bad HN.out (fr_drewN HS.out.2.2.2.2 _) (HS.out.2.2.2.1.drewN _)⟩
   |some b =>
    have HB:=hide (byte_ok B rb A c l (a+i) wr HS.out.2.2.2.1 b hb);have HX:=hide hb;have HDR:=hide (drop_some hb);have HLT:=hide (List.getElem?_eq_some_iff.1 hb).1;unfold ptr at HB;clear hb;obtain⟨t,ht⟩:∃ t,t=b.toNat%128:=⟨_,rfl⟩;obtain⟨T,hT⟩:∃ T,T=t*2^(7*i):=⟨_,rfl⟩
    have htl:t<128:=by omega
    have hpow:2^(7*i)≤2^56:=Nat.pow_le_pow_right (by omega) (by omega)
    have hTl:T<9223372036854775808:=by
     rw[hT];have:t*2^(7*i)≤127*2^56:=Nat.mul_le_mul (by omega) hpow;omega
    have hp1:p<2^(7*i):=by have h1:=HS.out.1;rwa[show(128:Nat)=2^7 from rfl,←Nat.pow_mul]at h1
    have hPl:p+T<9223372036854775808:=by
     have h1:(t+1)*2^(7*i)≤128*2^56:=Nat.mul_le_mul (by omega) hpow;rw[Nat.add_mul,Nat.one_mul,←hT]at h1;omega
    have f1:bits .and .u8 (b.toNat:Int) 127=(t:Int):=by rw[ht];exact and127 b
    have f2:wrap64 (t:Int)=(t:Int):=wrap_small t (by omega)
    have f3:wrap64 ((t:Int)*2^(7*i))=(T:Int):=by
     have e:(t:Int)*2^(7*i)=(T:Int):=by rw[hT];push_cast;rfl
     rw[e];exact wrap_small T hTl
    have f4:bits .or .i64 (p:Int) (T:Int)=((p+T:Nat):Int):=by rw[hT];exact or_add p t (7*i) hp1 (by rw[←hT];exact hPl)
    have HP:Hid (p+T=p+128^i*t):=hide (by rw[hT,show(128:Nat)=2^7 from rfl,←Nat.pow_mul,Nat.mul_comm]);have HTT:=hide ht;have HPP:=hide hp1;obtain⟨P',hP'⟩:∃ P',P'=p+T:=⟨_,rfl⟩;rw[←hP']at f4 HP hPl;clear ht hT hTl hpow hp1 hP';by_cases hsm:b.toNat<128
    ·have hsmi:(b.toNat:Int)<128:=by omega
     have HSM:=hide hsm;by_cases hz:b.toNat=0
     ·have hzb:((b.toNat:Int)==0)=true:=by simp[hz]
      by_cases hi0:0<i
      ·have HN:Hid (dec (l.drop a)=none):=hide (by
        have h1:=HS.out.2.2.1;rw[HDR.out]at h1;obtain⟨q,hq⟩:∃ q,9-i=q+1:=⟨8-i,by omega⟩
        have hib:(i==0)=false:=by simp;omega
        rw[hq,hib,decF,if_pos hsm,if_pos ⟨hz,rfl⟩]at h1;unfold dec
        rw[h1];rfl)
       clear hz
       go_wp2_with (first
        |(go_at_call 46
          refine HB.out.mono ?_;rintro e w1 ⟨rfl,hr1,hf1⟩;have HR1:=hide hr1;have HF1:=hide hf1
          clear hr1 hf1)
        |fail)
       exact⟨rfl,dY.bad HN.out (HS.out.2.2.2.2.trans HF1.out) HR1.out⟩
      ·obtain rfl:i=0:=by omega
       have hp0:p=0:=by have:=HS.out.1;simp at this;exact this
       have ht0:t=0:=by have:=HTT.out;rw[this,hz]
       have hP0:P'=0:=by rw[HP.out,hp0,ht0]
       have HN:Hid (dec (l.drop a)=some (0,l.drop (a+0+1))):=hide (by
        have h1:=HS.out.2.2.1;rw[HDR.out]at h1;rw[show(9:Nat)-0=8+1 from rfl,decF,if_pos hsm,if_neg (fun h=>by cases h.2),Option.map_some]at h1;unfold dec;rw[h1,hp0,hz]
        rfl)
       have g1:bits .and .u8 0 127=0:=by decide +kernel
       have g2:wrap64 0=0:=by decide +kernel
       have g3:bits .or .i64 0 0=0:=by decide +kernel
       subst hp0;clear f1 f2 f3 f4 hP0 ht0 hi0
       go_wp2_with (first
        |(go_at_call 46
          refine HB.out.mono ?_;rintro e w1 ⟨rfl,hr1,hf1⟩;have HR1:=hide hr1;have HF1:=hide hf1
          clear hr1 hf1)
        |fail)
       go_ret
       exact dY.good HN.out (HS.out.2.2.2.2.trans HF1.out) (by
        have e:l.length-(l.drop (a+0+1)).length=a+0+1:=by rw[List.length_drop];have:=HLT.out;omega
        rw[e]
        exact HR1.out)
     ·have hzb:((b.toNat:Int)==0)=false:=by simp;omega
      have HDEC:Hid (decF 9 true (l.drop a)=some (P',l.drop (a+i+1))):=hide (by
       have h1:=HS.out.2.2.1;rw[HDR.out]at h1;obtain⟨q,hq⟩:∃ q,9-i=q+1:=⟨8-i,by omega⟩;rw[hq,decF,if_pos hsm,if_neg (fun h=>hz h.1),Option.map_some]at h1
       rw[h1,HP.out,HTT.out,Nat.mod_eq_of_lt hsm])
      clear hz;by_cases hbig:top<P'
      ·have hbi:(4611686018427387904:Int)<(P':Int):=by unfold top at hbig;omega
       have hbd:decide ((P':Int)>4611686018427387904)=true:=decide_eq_true hbi;have HN:Hid (dec (l.drop a)=none):=hide (by unfold dec;rw[HDEC.out,Option.bind_some,if_neg (by simp only;omega)]);clear hbig
       go_wp2_with (first
        |(go_at_call 46
          refine HB.out.mono ?_;rintro e w1 ⟨rfl,hr1,hf1⟩;have HR1:=hide hr1;have HF1:=hide hf1
          clear hr1 hf1)
        |fail)
       exact⟨rfl,dY.bad HN.out (HS.out.2.2.2.2.trans HF1.out) HR1.out⟩
      ·have hbi:¬ (4611686018427387904:Int)<(P':Int):=by unfold top at hbig;omega
       have hbd:decide ((P':Int)>4611686018427387904)=false:=decide_eq_false hbi;have HN:Hid (dec (l.drop a)=some (P',l.drop (a+i+1))):=hide (by unfold dec;rw[HDEC.out,Option.bind_some,if_pos (by simp only;omega)]);clear hbig
       go_wp2_with (first
        |(go_at_call 46
          refine HB.out.mono ?_;rintro e w1 ⟨rfl,hr1,hf1⟩;have HR1:=hide hr1;have HF1:=hide hf1
          clear hr1 hf1)
        |fail)
       go_ret
       exact dY.good HN.out (HS.out.2.2.2.2.trans HF1.out) (by
        have e:l.length-(l.drop (a+i+1)).length=a+i+1:=by rw[List.length_drop];have:=HLT.out;omega
        rw[e]
        exact HR1.out)
    ·have hsmi:¬ (b.toNat:Int)<128:=by omega
     have hdn:decide ((b.toNat:Int)<128)=false:=decide_eq_false hsmi
     have HNX:Hid (P'<128^(i+1)∧decF 9 true (l.drop a)=(decF (9-(i+1)) (i+1==0) (l.drop (a+(i+1)))).map (fun q=>(P'+128^(i+1)*q.1,q.2))):=hide (by
      refine⟨?_,?_⟩
      ·rw[HP.out,Nat.pow_succ];have h1:=HS.out.1;have h2:128^i*(t+1)≤128^i*128:=Nat.mul_le_mul (Nat.le_refl _) (by omega);rw[Nat.mul_add,Nat.mul_one]at h2;omega
      ·have h1:=HS.out.2.2.1;rw[HDR.out]at h1;obtain⟨q,hq⟩:∃ q,9-i=q+1:=⟨8-i,by omega⟩
       have hq2:9-(i+1)=q:=by omega
       have hib:(i+1==0)=false:=by simp
       rw[hq,decF,if_neg hsm,Option.map_map]at h1;rw[h1,hq2,hib,←Nat.add_assoc]
       congr 1
       funext y
       simp only[Function.comp,HP.out,HTT.out,Prod.mk.injEq,and_true];rw[Nat.pow_succ,Nat.mul_add,Nat.mul_assoc]
       omega)
     go_wp2_with (first
      |(go_at_call 46
        refine HB.out.mono ?_;rintro e w1 ⟨rfl,hr1,hf1⟩;have HR1:=hide hr1;have HF1:=hide hf1
        clear hr1 hf1)
      |fail)
     go_roundw
     case rel=>exact⟨i+1,P',by omega,by go_num,rfl,hide ⟨HNX.out.1,by have:=HLT.out;omega,HNX.out.2,HR1.out,HS.out.2.2.2.2.trans HF1.out⟩⟩
     case measure=>simp[intOf];omega
  ·have hd1:decide ((i:Int)<9)=false:=by simp;omega
   have HN:Hid (dec (l.drop a)=none):=hide (by
    have h1:=HS.out.2.2.1
    have h2:9-i=0:=by omega
    rw[h2,decF]at h1;unfold dec
    rw[h1];rfl)
   go_wp2_with fail
   exact⟨rfl,dY.bad HN.out HS.out.2.2.2.2 HS.out.2.2.2.1⟩
end RecW
