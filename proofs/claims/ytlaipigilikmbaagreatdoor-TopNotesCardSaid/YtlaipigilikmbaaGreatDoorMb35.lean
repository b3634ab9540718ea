/- Texts of this seat,put together: Items,RecBatL,RecRead,RecSame,RecJoin,NoteP,SlotPut,LwCl,LwCl2,NoteR. -/
import Derived.Test.YtlaipigilikmbaaGreatDoorMb33
import Derived.Deep.AppendLies
import Derived.Laws.AppendOwnNone
import Derived.Test.YtlaipigilikmbaaGreatDoorMb34
import Derived.Deep.RegionHeld3
import Derived.Laws.StructEq
import Derived.Test.YtlaipigilikmbaaGreatDoorMb31
import Derived.Test.YtlaipigilikmbaaGreatDoorMb13
import Derived.Test.YtlaipigilikmbaaGreatDoorMb29
namespace Go.Proofs.YtlaipigilikmbaaGreatDoor
noncomputable section
set_option linter.unusedVariables false
set_option linter.unusedSimpArgs false
namespace Items
open RowKit I64 BufW
theorem own_fr{w w':World}{B base:Nat}{T:Obj→Prop}{e:TypeId}{s n:Nat}{v:Value}{xs:List Value}(h:w.ownsRow base e s v n xs)(hf:Fr B T w w')(hT:∀ cs r,¬T (.cells cs e r)):w'.ownsRow base e s v n xs :=
 ⟨h.1,h.2.imp id fun⟨g,cap,cur,h1,h2,h3,h4⟩=>⟨g,cap,cur,h1,h2,hf.keep g _ h3 (hT _ _),h4⟩⟩
end Items
namespace RecW
open RowKit Rec BufW I64
def entv:List Ent→List Value
 |[]=>[]
 |e::l=>.int .i64 (e.1:Int)::.int .i64 (e.2.1:Int)::.int .i64 (e.2.2:Int)::entv l
theorem entv_append(l m:List Ent):entv (l++m)=entv l++entv m:=by
 induction l with
 |nil=>rfl
 |cons r l ih=>simp only[List.cons_append,entv,ih]
def aV(w:World)(base:Nat)(v:Value)(es:List Ent):Prop:=w.ownsRow base 64 3 v es.length (entv es)
structure BS(w W:World)(B rb:Nat)(A:Option Addr)(c:Nat)(l:List UInt8)(a g1 g2 g3 g4:Nat)(a':Nat)(v:Value):Prop where
 rdr:Rdr W B rb A c l a'
 b1:Bk W g1 75 #[ptr rb]
 b2:Bk W g2 27 #[v]
 b3:Bk W g3 4 #[.bool false]
 b4:Bk W g4 3 #[.int .i64 a]
 fr:Fr B rdrT w W
 l2:w.heap.size≤g2
 l3:w.heap.size≤g3
 hB:B≤w.heap.size
section
variable {w W W':World}{B rb c a a' a'' g1 g2 g3 g4:Nat}{A:Option Addr}{l:List UInt8}{v:Value}
theorem BS.step(h:BS w W B rb A c l a g1 g2 g3 g4 a' v)(hf:Fr B rdrT W W')(hr:Rdr W' B rb A c l a''):BS w W' B rb A c l a g1 g2 g3 g4 a'' v :=
 ⟨hr,hf.bk h.b1 (by simp only[rdrT];decide),hf.bk h.b2 (by simp only[rdrT];decide),hf.bk h.b3 (by simp only[rdrT];decide),hf.bk h.b4 (by simp only[rdrT];decide),h.fr.trans hf,h.l2,h.l3,h.hB⟩
end
def start(w:World)(rb a:Nat):World:=(((w.alloc (.cells #[.pointer (some ⟨rb,0,none⟩)] 75)).alloc (.cells #[.slice none 0 0] 27)).alloc (.cells #[.bool false] 4)).alloc (.cells #[.int .i64 a] 3)
theorem start_bs(w:World)(B rb c a:Nat)(A:Option Addr)(l:List UInt8)(h:Rdr w B rb A c l a):BS w (start w rb a) B rb A c l a w.heap.size (w.heap.size+1) (w.heap.size+1+1) (w.heap.size+1+1+1) a (.slice none 0 0):=by
 have hB:B≤w.heap.size:=Nat.le_trans h.low (Nat.le_of_lt h.bk.lt);have f1:Fr B never w (w.alloc (.cells #[.pointer (some ⟨rb,0,none⟩)] 75)):=(Fr.refl _ _ _).alloc hB _;have k1:=Bk.new w 75 #[.pointer (some ⟨rb,0,none⟩)];have f2:=f1.alloc (Nat.le_trans hB f1.size) (.cells #[.slice none 0 0] 27);have k2:=Bk.new (w.alloc (.cells #[.pointer (some ⟨rb,0,none⟩)] 75)) 27 #[.slice none 0 0];have f3:=f2.alloc (Nat.le_trans hB f2.size) (.cells #[.bool false] 4);have k3:=Bk.new ((w.alloc (.cells #[.pointer (some ⟨rb,0,none⟩)] 75)).alloc (.cells #[.slice none 0 0] 27)) 4 #[.bool false];have f4:=f3.alloc (Nat.le_trans hB f3.size) (.cells #[.int .i64 a] 3);have k4:=Bk.new (((w.alloc (.cells #[.pointer (some ⟨rb,0,none⟩)] 75)).alloc (.cells #[.slice none 0 0] 27)).alloc (.cells #[.bool false] 4)) 3 #[.int .i64 a];simp at k2 k3 k4;exact⟨h.fr f4 (fun _ _ h=>h) (fun _ _ h=>h),((k1.alloc _).alloc _).alloc _,(k2.alloc _).alloc _,k3.alloc _,k4,f4.mono fun _ h=>h.elim,by omega,by omega,hB⟩
def rowK(e:TypeId):Obj→Prop
 |.cells _ t _=>t=e
 |_=>False
theorem _root_.Go.Proofs.YtlaipigilikmbaaGreatDoor.Fr.setNew{B:Nat}{T:Obj→Prop}{w W:World}(h:Fr B T w W)(hB:B≤w.heap.size){p:Addr}(hp:w.heap.size≤p.block)(u:Value):Fr B T w (W.setCell p u) :=
 ⟨h.low.setCell (Nat.le_trans hB hp) u,fun x o hx hn=>by
  have hlt:=(Array.getElem?_eq_some_iff.1 hx).1;rw[Below.heap_setCell W p u x (by omega)]
  exact h.keep x o hx hn⟩
def dfr(g1 g2 g3 g4:Nat):Deferred:={target:=Target.fn (Fn.func 44) #[.pointer (some ⟨g4,0,none⟩),.pointer (some ⟨g2,0,none⟩),.pointer (some ⟨g3,0,none⟩),.pointer (some ⟨g1,0,none⟩)],args:=#[]}
def fF(w:World)(B rb:Nat)(A:Option Addr)(c:Nat)(l:List UInt8)(a:Nat)(e:Ending)(w':World):Prop :=
 Fr B rdrT w w'∧(∀es rest,decB (l.drop a)=some (es,rest)→∃ v,e=.returned (.tuple #[v,.bool true])∧aV w' w.heap.size v es∧Rdr w' B rb A c l (l.length-rest.length)) ∧
  (decB (l.drop a)=none→e=.returned (.tuple #[.slice none 0 0,.bool false])∧Rdr w' B rb A c l a)
theorem fF.bad{w w':World}{B rb c a:Nat}{A:Option Addr}{l:List UInt8}(hn:decB (l.drop a)=none)(hf:Fr B rdrT w w')(hr:Rdr w' B rb A c l a):fF w B rb A c l a (.returned (.tuple #[.slice none 0 0,.bool false])) w' :=
 ⟨hf,fun x rest hx=>(by rw[hn]at hx;cases hx),fun _=>⟨rfl,hr⟩⟩
theorem eY{w W:World}{B rb c a a' g1 g2 g3 g4:Nat}{A:Option Addr}{l:List UInt8}{v:Value}(hs:BS w W B rb A c l a g1 g2 g3 g4 a' v)(hn:decB (l.drop a)=none)(tmps:Array Value)(h2:tmps[2]? = some (.pointer (some ⟨g2,0,none⟩)))(h3:tmps[3]? = some (.pointer (some ⟨g3,0,none⟩))) :
 bodyPostD Tryz.prog Tryz.f28 (fF w B rb A c l a) (Exit.panic shortP) {tmps:=tmps,defers:=[dfr g1 g2 g3 g4]} W:=by
 unfold dfr shortP;refine leaves_cons (f:=44) (args:=#[.pointer (some ⟨g4,0,none⟩),.pointer (some ⟨g2,0,none⟩),.pointer (some ⟨g3,0,none⟩),.pointer (some ⟨g1,0,none⟩)]) (by simp) (by simp[go_sem]) ?_;refine(catch_short g4 g2 g3 g1 rb a a' v (.bool false) [] W #[] _ hs.b4 hs.b2 hs.b3 hs.b1 hs.rdr.bk).mono ?_;rintro e u' w'' ⟨rfl,rfl,rfl⟩;have hB:B≤w.heap.size:=hs.hB;have f1:Fr B never W (W.alloc (.cells #[] 105)):=(Fr.refl _ _ _).alloc (Nat.le_trans hB hs.fr.size) _;have k2:=(hs.b2.alloc (.cells #[] 105)).put 0 (.slice none 0 0);have k3:=(hs.b3.alloc (.cells #[] 105));have n23:g3≠g2:=bk_ne hs.b3 hs.b2 (by decide);have n2:g2≠rb:=bk_ne hs.b2 hs.rdr.bk (by decide);have n3:g3≠rb:=bk_ne hs.b3 hs.rdr.bk (by decide);have k3':=(k3.far (p:=⟨g2,0,none⟩) n23 (.slice none 0 0)).put 0 (.bool false);have k2':=(k2.far (p:=⟨g3,0,none⟩) (Ne.symm n23) (.bool false)).far (p:=⟨rb,1,none⟩) n2 (.int .i64 a);have k3'':=k3'.far (p:=⟨rb,1,none⟩) n3 (.int .i64 a);have R1:=hs.rdr.fr f1 (fun _ _ h=>h) (fun _ _ h=>h);have F1:=((hs.fr.trans (f1.mono fun _ h=>h.elim)).setNew hB (p:=⟨g2,0,none⟩) hs.l2 (.slice none 0 0)).setNew hB (p:=⟨g3,0,none⟩) hs.l3 (.bool false);have e1:=Fr.set (T:=rowK 27) (p:=⟨g2,0,none⟩) (hs.b2.alloc (.cells #[] 105)) (Nat.le_trans hB hs.l2) rfl (.slice none 0 0);have e2:=Fr.set (T:=rowK 4) (p:=⟨g3,0,none⟩) (k3.far (p:=⟨g2,0,none⟩) n23 (.slice none 0 0)) (Nat.le_trans hB hs.l3) rfl (.bool false);have R2:=(R1.fr e1 (fun _ _=>by simp only[rowK];decide) (fun _ _=>by simp only[rowK];decide)).fr e2 (fun _ _=>by simp only[rowK];decide) (fun _ _=>by simp only[rowK];decide);obtain⟨R3,F3⟩:=R2.at_ (a':=a);have q2:=k2'.at_ (i:=0) (u:=.slice none 0 0) rfl;have q3:=k3''.at_ (i:=0) (u:=.bool false) rfl;have HP:=fF.bad hn (F1.trans F3) R3;clear k2 k3 k3' k2' k3'' R1 F1 e1 e2 R2 R3 F3 f1;generalize (((W.alloc (.cells #[] 105)).setCell ⟨g2,0,none⟩ (.slice none 0 0)).setCell ⟨g3,0,none⟩ (.bool false)).setCell ⟨rb,1,none⟩ (.int .i64 a)=W2 at *;simp[Leaves,settle,results,Tryz.results28,go_sem,h2,h3,q2,q3];exact HP
theorem bat_done{W:World}{g1 g2 g3 g4:Nat}{v:Value}(P:Ending→World→Prop)(tmps:Array Value)(h2:tmps[2]? = some (.pointer (some ⟨g2,0,none⟩)))(h3:tmps[3]? = some (.pointer (some ⟨g3,0,none⟩)))
 (q2:W.cell? ⟨g2,0,none⟩=some v) (q3:W.cell? ⟨g3,0,none⟩=some (.bool true)) (hP:P (.returned (.tuple #[v,.bool true])) W) :
 bodyPostD Tryz.prog Tryz.f28 P Exit.normal {tmps:=tmps,defers:=[dfr g1 g2 g3 g4]} W:=by
 unfold dfr;refine leaves_cons (f:=44) (args:=#[.pointer (some ⟨g4,0,none⟩),.pointer (some ⟨g2,0,none⟩),.pointer (some ⟨g3,0,none⟩),.pointer (some ⟨g1,0,none⟩)]) (by simp) (by simp[go_sem]) ?_;refine(catch_idle g4 g2 g3 g1 W).mono ?_;rintro e u' w'' ⟨rfl,rfl,rfl⟩;simp[Leaves,settle,results,Tryz.results28,go_sem,h2,h3,q2,q3];exact hP
theorem decEs_pre:∀ (es:List Ent) (m:Nat) (r:List UInt8),(∀e∈es,okE e)→decEs (es.length+m) (ents es++r)=(decEs m r).map fun q=>(es++q.1,q.2)
 |[],m,r,_=>by
  simp only[List.length_nil,Nat.zero_add,ents,List.nil_append]
  cases decEs m r<;>rfl
 |e::es,m,r,h=>by
  rw[List.length_cons,Nat.add_right_comm,decEs,ents,List.append_assoc,mF.2 ⟨rfl,h e (List.mem_cons_self ..)⟩,Option.bind_some];simp only;rw[decEs_pre es m r (fun e he=>h e (List.mem_cons_of_mem _ he))]
  cases decEs m r<;>rfl
theorem kV{es:List Ent}{n:Nat}{r:List UInt8}(h:∀ e∈es,okE e)(hn:es.length<n)(hr:decE r=none):decEs n (ents es++r)=none:=by
 obtain⟨m,rfl⟩:∃ m,n=es.length+(m+1):=⟨n-es.length-1,by omega⟩;rw[decEs_pre es (m+1) r h,decEs,hr];rfl
theorem decB_none1{l:List UInt8}(h:dec l=none):decB l=none:=by unfold decB;rw[h];rfl
theorem decB_none2{l r:List UInt8}{n:Nat}(h:dec l=some (n,r))(hn:¬ n≤64):decB l=none:=by unfold decB;rw[h,Option.bind_some,if_neg hn]
theorem lq{l r:List UInt8}{n:Nat}(h:dec l=some (n,r))(hd:decEs n r=none):decB l=none:=by
 unfold decB;rw[h,Option.bind_some];by_cases hn:n≤64
 ·rw[if_pos hn,hd];rfl
 ·rw[if_neg hn]
theorem decB_none4{l r r2:List UInt8}{n:Nat}{es:List Ent}(h:dec l=some (n,r))(hd:decEs n r=some (es,r2))(hs:¬ (r2.take 4=sum (l.take (l.length-r2.length))∧4≤r2.length)):decB l=none:=by
 unfold decB;rw[h,Option.bind_some];by_cases hn:n≤64
 ·rw[if_pos hn,hd,Option.bind_some,if_neg hs]
 ·rw[if_neg hn]
theorem dec_cut{l r:List UInt8}{x a:Nat}(h:dec (l.drop a)=some (x,r)):r=l.drop (l.length-r.length)∧l.length-r.length≤l.length:=by
 refine⟨?_,by omega⟩;have h1:=(iI h).1
 have h3:(l.drop a).drop (num x).length=r:=by rw[h1,List.drop_left]
 have h2:=congrArg List.length h1;rw[List.length_drop,List.length_append]at h2;rw[List.drop_drop]at h3;by_cases hr:r=[]
 ·subst hr;simp
 ·have:0<r.length:=List.length_pos_iff.2 hr
  conv=>lhs;rw[←h3]
  congr 1
  omega
theorem rd_cut{w:World}{A:Option Addr}{l:List UInt8}{a a1 b off:Nat}(h:Rd w A (u8v l))(hA:A=some ⟨b,off,none⟩)(h1:a+1≤a1)(h2:a1≤l.length):Rd w (some ⟨b,off+a,none⟩) (u8v ((l.drop a).take (a1-a))):=by
 have h3:=(h.drop a (a+l.length) (by rw[aC];omega)).take (a1-a);rw[if_neg (by omega),hA]at h3
 have e:u8v ((l.drop a).take (a1-a))=((u8v l).drop a).take (a1-a):=by simp[u8v,List.map_take,List.map_drop]
 rw[e];simpa[Addr.add_lit] using h3
theorem rd_cut_len{l:List UInt8}{a a1:Nat}(h1:a+1≤a1)(h2:a1≤l.length):((l.drop a).take (a1-a)).length=a1-a:=by
 rw[List.length_take,List.length_drop];omega
theorem shr8(S i:Nat)(hi:i<4):Op.shift .shr .u32 (S:Int) .i64 (IntKind.i64.wrap (8*(i:Int)))=pure (.int .u32 ((S / 2^(8*i):Nat):Int)):=by
 have h1:IntKind.i64.wrap (8*(i:Int))=((8*i:Nat):Int):=by rw[IntKind.wrap_i64];omega
 rw[h1,shift_shr_any _ _ _ _ (by omega)]
 have h2:min ((8*i:Nat):Int).toNat IntKind.u32.bits=8*i:=by
  have:IntKind.u32.bits=32:=rfl;rw[this];omega
 rw[h2]
 congr 2
theorem le4_at(S i:Nat)(hi:i<4):(le4 S)[i]? = some (UInt8.ofNat (S / 2^(8*i)%256)):=by
 have e:∀ x:Nat,UInt8.ofNat (x%256)=UInt8.ofNat x:=fun x=>by
  apply UInt8.toNat_inj.1
  rw[UInt8.toNat_ofNat',UInt8.toNat_ofNat'];simp
 rw[e];rcases i with _|_|_|_|i
 ·simp[le4]
 ·simp[le4]
 ·simp[le4]
 ·simp[le4]
 ·omega
theorem aO{l l1:List UInt8}{a a1 n S:Nat}{es:List Ent}(hd:dec (l.drop a)=some (n,l1))(hde:decEs n l1=some (es,l.drop a1))(hS:S=(Crc.crc ((l.drop a).take (a1-a))).toNat)(hp:a+1≤a1∧a1≤l.length) :
 sum ((l.drop a).take ((l.drop a).length-(l.drop a1).length))=le4 S:=by
 rw[List.length_drop,List.length_drop,show l.length-a-(l.length-a1)=a1-a from by omega,hS];rfl
theorem aV.form{W:World}{base:Nat}{v:Value}{es:List Ent}(h:aV W base v es):∃ A c,v=.slice A es.length c:=by
 rcases h.2 with⟨rfl,h0⟩|⟨g,cap,cur,rfl,-⟩
 ·exact⟨none,0,by rw[h0]⟩
 ·exact⟨_,cap,rfl⟩
theorem fF.good{w w':World}{B rb c a:Nat}{A:Option Addr}{l rest:List UInt8}{es:List Ent}{v:Value}(hn:decB (l.drop a)=some (es,rest))(hf:Fr B rdrT w w')(hv:aV w' w.heap.size v es)(hr:Rdr w' B rb A c l (l.length-rest.length)):fF w B rb A c l a (.returned (.tuple #[v,.bool true])) w' :=
 ⟨hf,fun es' rest' hx=>(by rw[hn]at hx;injection hx with hx;injection hx with h1 h2;subst h1 h2;exact⟨v,rfl,hv,hr⟩),fun h=>(by rw[hn]at h;cases h)⟩
theorem aV.empty(W:World){base:Nat}(hb:base≤W.heap.size):aV (W.alloc (.cells #[] 64)) base (.slice (some ⟨W.heap.size,0,none⟩) 0 0) [] :=
 ⟨rfl,.inr ⟨W.heap.size,0,#[],rfl,hb,heap_alloc_new W _,Nat.le_refl _,Nat.zero_le _,rfl,rfl⟩⟩
section
variable {w W W':World}{B rb c a a' a'' g1 g2 g3 g4:Nat}{A:Option Addr}{l:List UInt8}{v:Value}
theorem BS.hW(h:BS w W B rb A c l a g1 g2 g3 g4 a' v):B≤W.heap.size:=Nat.le_trans h.hB h.fr.size
theorem BS.alloc(h:BS w W B rb A c l a g1 g2 g3 g4 a' v)(o:Obj):BS w (W.alloc o) B rb A c l a g1 g2 g3 g4 a' v :=
 have f:Fr B never W (W.alloc o):=(Fr.refl _ _ _).alloc h.hW o
 ⟨h.rdr.fr f (fun _ _ h=>h) (fun _ _ h=>h),h.b1.alloc o,h.b2.alloc o,h.b3.alloc o,h.b4.alloc o,h.fr.trans (f.mono fun _ h=>h.elim),h.l2,h.l3,h.hB⟩
theorem BS.out(h:BS w W B rb A c l a g1 g2 g3 g4 a' v)(u:Value):BS w (W.setCell ⟨g2,0,none⟩ u) B rb A c l a g1 g2 g3 g4 a' u :=
 have f:=Fr.set (T:=rowK 27) (p:=⟨g2,0,none⟩) h.b2 (Nat.le_trans h.hB h.l2) rfl u
 ⟨h.rdr.fr f (fun _ _=>by simp only[rowK];decide) (fun _ _=>by simp only[rowK];decide),f.bk h.b1 (by simp only[rowK];decide),h.b2.put 0 u,f.bk h.b3 (by simp only[rowK];decide),f.bk h.b4 (by simp only[rowK];decide),h.fr.setNew h.hB h.l2 u,h.l2,h.l3,h.hB⟩
theorem BS.rows{T:Obj→Prop}(h:BS w W B rb A c l a g1 g2 g3 g4 a' v)(hf:Fr w.heap.size T W W')(hT:∀ cs t r,T (.cells cs t r)→t=64):BS w W' B rb A c l a g1 g2 g3 g4 a' v :=
 have f:=hf.base h.hB
 ⟨h.rdr.fr f (fun _ _ ht=>absurd (hT _ _ _ ht) (by decide)) (fun _ _ ht=>absurd (hT _ _ _ ht) (by decide)),f.bk h.b1 (fun ht=>absurd (hT _ _ _ ht) (by decide)),f.bk h.b2 (fun ht=>absurd (hT _ _ _ ht) (by decide)),f.bk h.b3 (fun ht=>absurd (hT _ _ _ ht) (by decide)),f.bk h.b4 (fun ht=>absurd (hT _ _ _ ht) (by decide)),
  ⟨h.fr.low.trans f.low,fun x o hx hn=>by
   rw[hf.low.block x (Array.getElem?_eq_some_iff.1 hx).1];exact h.fr.keep x o hx hn⟩,h.l2,h.l3,h.hB⟩
theorem aV.out{base:Nat}{es:List Ent}(h:aV W base v es){t:TypeId}{cs:Array Value}{g:Nat}(hg:Bk W g t cs)(ht:64≠t)(u:Value)(i:Nat):aV (W.setCell ⟨g,i,none⟩ u) base v es :=
 ownsRow_setCell_other h (Ne.symm (own_bk_ne h hg ht)) u
end
theorem ent_info:(Tryz.prog.info? 64).map (fun i=>(i.zero,i.size,i.bytes))=some (some (.agg #[.int .i64 0,.int .i64 0,.int .i64 0]),3,24):=by kernel_rfl
theorem entv_one(e:Ent):∀ u∈entv [e],u.oneCell'=true:=by
 intro u hu;simp only[entv,List.mem_cons,List.not_mem_nil,or_false]at hu
 rcases hu with rfl|rfl|rfl<;>rfl
theorem wpList_ent{w:World}{ops:Array Oper}{rest:List Oper}{o:Oper}{a:Act}{Q:Exit→Act→World→Prop}{base:Nat}{v:Value}{es:List Ent}(hgd:o.guard=none)(s x:Operand)
 (ho:o.op=.call {callee:=.builtin .append,args:=#[s,x],argTypes:=#[27,27]})
 (hs:a.eval s=v) (h:aV w base v es) (y:Ent) (gb cx:Nat) (hx:a.eval x=.slice (some ⟨gb,0,none⟩) 1 cx)
 (hc:Bk w gb 64 #[.int .i64 (y.1:Int),.int .i64 (y.2.1:Int),.int .i64 (y.2.2:Int)]) (hl:es.length≤1000000000) (hbase:base≤w.heap.size)
 (hK:∀ (g cap:Nat) (w':World),aV w' base (.slice (some ⟨g,0,none⟩) (es.length+1) cap) (es++[y])→Fr base (rowK 64) w w'→wpList Tryz.prog ops Q rest (a.put o.dst (.slice (some ⟨g,0,none⟩) (es.length+1) cap)) w'):wpList Tryz.prog ops Q (o::rest) a w:=by
 obtain⟨i,hi,hz,hsz,hby⟩:=info_parts ent_info;refine wpList_append_lies w hgd s x 27 ho base 64 i _ 3 24 Tryz.underlying27 hi hz hsz hby rfl (by omega) v es.length (entv es) hs h ⟨gb,0,none⟩ 1 cx (entv [y]) hx rfl ?_ (entv_one y) (by omega) (by simp only[maxLen];omega) (by omega) hbase _ rfl ?_
 ·intro j u hu;rw[Addr.add_lit,Nat.zero_add];exact hc.at_ (by simpa[entv] using hu)
 ·intro g cap w5 ho5 hg5 hor hlt;refine hK g cap w5 ?_ ?_
  ·unfold aV;rw[entv_append,List.length_append];exact ho5
  ·refine Fr.row hg5 hbase fun k hk=>?_;refine⟨(World.ownsRow.lt h k hk).1,fun o ho=>?_⟩;rcases h.2 with⟨rfl,-⟩|⟨g,cap,cur,rfl,-,hh,-⟩
   ·cases hk
   ·have:g=k:=by simpa[Value.ownBlock] using hk
    subst this;rw[hh]at ho;injection ho with ho;subst ho;rfl
theorem aV.fr{w w':World}{B base:Nat}{v:Value}{es:List Ent}{T:Obj→Prop}(h:aV w base v es)(hf:Fr B T w w')(hT:∀ cs r,¬T (.cells cs 64 r)):aV w' base v es:=Items.own_fr h hf hT
structure LS(w W:World)(B rb:Nat)(A:Option Addr)(c:Nat)(l:List UInt8)(a g1 g2 g3 g4 n:Nat)(l1:List UInt8)(j:Nat)(es:List Ent)(v:Value)(a1:Nat):Prop where
 bs:BS w W B rb A c l a g1 g2 g3 g4 a1 v
 ents:aV W w.heap.size v es
 len:es.length=j
 ok:∀ e∈es,okE e
 le:a1≤l.length
 cut:l1=Rec.ents es++l.drop a1
end RecW
namespace RecW
open RowKit Rec BufW I64
def nJ:Prop:=∀ (B rb:Nat) (A:Option Addr) (c:Nat) (l:List UInt8) (a:Nat) (w:World),Rdr w B rb A c l a→a≤l.length →
    Calls Tryz.prog 28 #[ptr rb] w (fF w B rb A c l a)
def dh(w:World)(base:Nat)(v:Value)(ls:List (List Ent)):Prop :=
 ∃R:List (List Ent×Value),R.map (·.1)=ls∧w.ownsRow base 27 1 v ls.length (R.map (·.2))∧∀ r∈R,aV w base r.2 r.1
theorem nN:(Tryz.prog.info? 27).map (fun i=>(i.zero,i.size,i.bytes))=some (some (.slice none 0 0),1,24):=by kernel_rfl
theorem dh.nil(w:World)(base:Nat):dh w base (.slice none 0 0) []:=⟨[],rfl,⟨rfl,.inl ⟨rfl,rfl⟩⟩,fun r hr=>(by cases hr)⟩
theorem dh.fr{w w':World}{B base:Nat}{v:Value}{ls:List (List Ent)}{T:Obj→Prop}(h:dh w base v ls)(hf:Fr B T w w')(h1:∀ cs r,¬T (.cells cs 64 r))(h2:∀ cs r,¬T (.cells cs 27 r)):dh w' base v ls:=by
 obtain⟨R,a,b,d⟩:=h;exact⟨R,a,Items.own_fr b hf h2,fun r hr=>(d r hr).fr hf h1⟩
theorem dh.form{w:World}{base:Nat}{v:Value}{ls:List (List Ent)}(h:dh w base v ls):∃ A c,v=.slice A ls.length c:=by
 obtain⟨R,-,b,-⟩:=h;rcases b.2 with⟨rfl,h0⟩|⟨g,cap,cur,rfl,-⟩
 ·exact⟨none,0,by rw[h0]⟩
 ·exact⟨_,cap,rfl⟩
theorem aV.lower{w:World}{b b':Nat}{v:Value}{es:List Ent}(h:aV w b v es)(hb:b'≤b):aV w b' v es:=own_base h hb
theorem wpList_bat{w:World}{ops:Array Oper}{rest:List Oper}{o:Oper}{a:Act}{Q:Exit→Act→World→Prop}{base:Nat}{v:Value}{ls:List (List Ent)}(hgd:o.guard=none)(s x:Operand)
 (ho:o.op=.call {callee:=.builtin .append,args:=#[s,x],argTypes:=#[22,22]})
 (hs:a.eval s=v) (h:dh w base v ls) (es:List Ent) (Ae:Option Addr) (ce:Nat) (he:aV w base (.slice Ae es.length ce) es) (gb cx:Nat) (hx:a.eval x=.slice (some ⟨gb,0,none⟩) 1 cx)
 (hc:Bk w gb 27 #[.slice Ae es.length ce]) (hl:ls.length≤1000000000) (hbase:base≤w.heap.size)
 (hK:∀ (A:Option Addr) (cap:Nat) (w':World),dh w' base (.slice A (ls.length+1) cap) (ls++[es])→Fr base (rowK 27) w w'→wpList Tryz.prog ops Q rest (a.put o.dst (.slice A (ls.length+1) cap)) w'):wpList Tryz.prog ops Q (o::rest) a w:=by
 obtain⟨i,hi,hz,hsz,hby⟩:=info_parts nN;obtain⟨R,h1,h2,h3⟩:=h;have hr:Rd w (some ⟨gb,0,none⟩) [.slice Ae es.length ce]:=.inr ⟨gb,0,rfl,fun i u hu=>by rw[Nat.zero_add];exact hc.at_ (by simpa using hu)⟩;refine dH w hgd s x 22 ho base 27 i _ 24 Tryz.underlying22 hi hz hsz hby rfl v ls.length (R.map (·.2)) hs h2 _ 1 cx [.slice Ae es.length ce] hx rfl hr (by intro u hu;simp only[List.mem_singleton]at hu;subst hu;rfl) (by simp only[maxLen];omega) (by omega) hbase ?_;intro v' w5 ho5 hg5
 have f5:Fr base (rowK 27) w w5:=Fr.row hg5 hbase fun k hk=>⟨(World.ownsRow.lt h2 k hk).1,fun o ho=>by
  rcases h2.2 with⟨rfl,-⟩|⟨g,cap,cur,rfl,-,hh,-⟩
  ·cases hk
  ·have:g=k:=by simpa[Value.ownBlock] using hk
   subst this;rw[hh]at ho;injection ho with ho;subst ho
   rfl⟩
 obtain⟨A',c',rfl,-⟩:=dL ho5;refine hK A' c' w5 ⟨R++[(es,.slice Ae es.length ce)],by simp[h1],by rw[List.map_append,List.length_append];exact ho5,fun r hr'=>?_⟩ f5
 have hne:∀ cs r,¬rowK 27 (.cells cs 64 r):=fun cs r=>by simp only[rowK];decide
 rcases List.mem_append.1 hr' with hr'|hr'
 ·exact(h3 r hr').fr f5 hne
 ·have:r=(es,.slice Ae es.length ce):=by simpa using hr'
  subst this;exact he.fr f5 hne
def sliceLn:Value→Nat
 |.slice _ n _=>n
 |_=>0
theorem flat_len:∀ ls:List (List Ent),ls.length*5≤(flat ls).length
 |[]=>Nat.zero_le _
 |es::ls=>by
  have:=flat_len ls;have:=bat_len es;rw[flat,List.length_append,List.length_cons];omega
structure RS(w W:World)(A:Option Addr)(c:Nat)(l:List UInt8)(rb:Nat)(ls:List (List Ent))(v:Value)(a:Nat):Prop where
 rdr:Rdr W w.heap.size rb A c l a
 bats:dh W w.heap.size v ls
 ok:∀ es∈ls,okB es
 le:a≤l.length
 cut:l=flat ls++l.drop a
 low:Below w.heap.size w W
set_option maxRecDepth 20000 in
set_option maxHeartbeats 4000000 in
theorem read_any(hbat:nJ)(A:Option Addr)(c:Nat)(l:List UInt8)(w:World)(h:BufW.Data w w.heap.size l A c)(hl:l.length≤1000000000) :
 Calls Tryz.prog 12 #[.slice A l.length c] w fun e w'=>∃ v,e=.returned (.tuple #[v,.int .i64 ((l.length-(Rec.read l).2.length:Nat):Int)])∧dh w' w.heap.size v (Rec.read l).1∧Below w.heap.size w w':=by
 have f0:Fr w.heap.size never w (w.alloc (.cells #[.slice A l.length c,.int .i64 0] 77)):=(Fr.refl _ _ _).alloc (Nat.le_refl _) _
 have H0:Hid (RS w (w.alloc (.cells #[.slice A l.length c,.int .i64 0] 77)) A c l w.heap.size [] (.slice none 0 0) 0):=hide
  ⟨⟨Bk.new _ _ _,Nat.le_refl _,h.fr f0 (fun _ _ h=>h)⟩,dh.nil _ _,(fun es he=>by cases he),Nat.zero_le _,(by simp[flat]),f0.low⟩
 have HBAT:=hide hbat;have HL:=hide hl;clear hbat hl h f0
 go_enter Tryz.func12,Tryz.ntmps12
 go_wp2_with fail
 go_loopw [5] (fun o wr=>∃ (ls:List (List Ent)) (a:Nat),sliceLn o=ls.length∧Hid (RS w wr A c l w.heap.size ls o a)) (fun o _=>l.length-sliceLn o)
 case atStart=>exact⟨[],0,rfl,H0⟩
 case round =>
  obtain⟨ls,a,hsl,HS⟩:=hrel;obtain⟨Ao,co,rfl⟩:=HS.out.bats.form;clear hsl;have HB:=hide (HBAT.out w.heap.size w.heap.size A c l a wr HS.out.rdr HS.out.le);unfold ptr at HB
  go_wp2_with fail
  refine HB.out.mono ?_;intro e w3 hp
  cases hd:decB (l.drop a) with
  |none =>
   obtain⟨rfl,hr3⟩:=hp.2.2 hd;have q1:=hr3.bk.at_ (i:=1) (u:=.int .i64 a) rfl;have HP:=hide hp.1
   have HR:Hid (Rec.read l=(ls,l.drop a)):=hide (by
    conv=>lhs;rw[HS.out.cut]
    exact read_eq HS.out.ok hd)
   clear hp hd hr3
   go_wp2_with fail
   go_quiet (fail)
   go_wp2_with fail
   go_ret2
   rw[HR.out]
   have e:l.length-(l.drop a).length=a:=by rw[List.length_drop];have:=HS.out.le;omega
   simp only[e];exact⟨_,rfl,(HS.out.bats.fr HP.out (fun _ _=>by simp only[rdrT];decide) (fun _ _=>by simp only[rdrT];decide)).fr (T:=never) (B:=0) ⟨below_drewN (Below.refl _ _) nq,fun _ _ h _=>h⟩ (fun _ _ h=>h) (fun _ _ h=>h),below_drewN (HS.out.low.trans HP.out.low) nq⟩
  |some p =>
   obtain⟨es,rest⟩:=p;obtain⟨v3,rfl,hv3,hr3⟩:=hp.2.1 es rest hd;obtain⟨Ae,ce,rfl⟩:=hv3.form;have hlw:w.heap.size≤wr.heap.size:=HS.out.low.size;have fa:Fr w.heap.size never w3 (w3.alloc (.cells #[.slice Ae es.length ce] 27)):=(Fr.refl _ _ _).alloc (Nat.le_trans hlw hp.1.size) _;have HV:=hide ((hv3.lower hlw).fr fa (fun _ _ h=>h));have HBT:=hide ((HS.out.bats.fr hp.1 (fun _ _=>by simp only[rdrT];decide) (fun _ _=>by simp only[rdrT];decide)).fr fa (fun _ _ h=>h) (fun _ _ h=>h));have HK:=hide (Bk.new w3 27 #[.slice Ae es.length ce]);have HRD:=hide (hr3.fr fa (fun _ _ h=>h) (fun _ _ h=>h));have HLW:=hide ((HS.out.low.trans hp.1.low).trans fa.low);have hcut:=(decB_iff.1 hd)
   have HOK:Hid (∀e∈ls++[es],okB e):=hide (fun e he=>by
    rcases List.mem_append.1 he with he|he
    ·exact HS.out.ok e he
    ·have:e=es:=by simpa using he
     subst this
     exact hcut.2)
   have hrl:rest.length≤l.length:=by
    have:=congrArg List.length hcut.1;rw[List.length_drop,List.length_append]at this;omega
   have hrest:rest=l.drop (l.length-rest.length):=by
    have h1:=hcut.1;have h2:=congrArg List.length h1;rw[List.length_drop,List.length_append]at h2
    have h3:(l.drop a).drop (bat es).length=rest:=by rw[h1,List.drop_left]
    rw[List.drop_drop]at h3;have:=bat_len es
    conv=>lhs;rw[←h3]
    congr 1
    omega
   have HCUT:Hid (l=flat (ls++[es])++l.drop (l.length-rest.length)):=hide (by
    rw[←hrest,flat_append]
    conv=>lhs;rw[HS.out.cut,hcut.1]
    simp[flat])
   have HLEN:Hid ((ls.length+1)*5≤l.length):=hide (by
    have h1:=flat_len (ls++[es]);have h2:=congrArg List.length HCUT.out;rw[List.length_append]at h2;rw[List.length_append]at h1;simp only[List.length_singleton]at h1
    omega)
   have HLS:Hid (ls.length≤1000000000):=hide (by have:=HLEN.out;have:=HL.out;omega);have HSZ:Hid (w.heap.size≤(w3.alloc (.cells #[.slice Ae es.length ce] 27)).heap.size):=hide HLW.out.size;have HRL:=hide (show l.length-rest.length≤l.length by omega);clear hp hd hr3 hv3 hlw fa hcut hrl hrest
   go_wp2_with (first
    |(refine wpList_bat rfl (.tmp 23) (.tmp 25) rfl rfl HBT.out es Ae ce HV.out w3.heap.size 1 rfl HK.out HLS.out HSZ.out ?_
      intro A9 cap9 w9 hb9 hf9;have HB9:=hide hb9;have HR9:=hide (HRD.out.fr hf9 (fun _ _=>by simp only[rowK];decide) (fun _ _=>by simp only[rowK];decide));have HL9:=hide (HLW.out.trans hf9.low)
      clear hb9 hf9)
    |fail)
   all_goals go_roundw
   all_goals (first
    |exact⟨ls++[es],l.length-rest.length,by simp[sliceLn],hide ⟨HR9.out,HB9.out,HOK.out,HRL.out,HCUT.out,HL9.out⟩⟩
    |(have:=HLEN.out;simp only[sliceLn];omega))
end RecW
namespace RecW
open RowKit Rec BufW I64
theorem neq_ent(x y z:Int)(w:World):(binOp .neq 64 (.agg #[.int .i64 x,.int .i64 y,.int .i64 z]) (.agg #[.int .i64 x,.int .i64 y,.int .i64 z])).run Tryz.prog w=.ok (.bool false) w:=by
 have u3:=Tryz.underlying3;have a3:=Tryz.isAgg3;have z3:=Tryz.sizeOf3
 have hS:Tryz.prog.underlying 64=some (.struct (Tryz.prog.fieldsOf 64)):=by kernel_rfl
 have hp:Tryz.prog.stoodInHeld 64=false:=by kernel_rfl
 rw[run_neq_struct,show(10000:Nat)=9999+1 from rfl,run_equalIn_struct w 9999 64 _ _ hS hp];simp only[Program.fieldsOf,Tryz.underlying64]
 go_simp
set_option maxRecDepth 20000 in
set_option maxHeartbeats 2000000 in
theorem batches_same(v1 v2:Value)(ls:List (List E3))(w:World)(h1:RdB w v1 ls)(h2:RdB w v2 ls)(hl:ls.length≤1000000000)(hle:∀ es∈ls,es.length≤1000000000) :
 Calls Tryz.prog 13 #[v1,v2] w fun e w'=>e=.returned (.bool true)∧∃ d,w'=w.drewN d:=by
 obtain⟨A1,c1,rfl,h1⟩:=h1;obtain⟨A2,c2,rfl,h2⟩:=h2;have H1:=hide h1;have H2:=hide h2;have HL:=hide hle;obtain⟨n,hn⟩:∃ n,n=ls.length:=⟨_,rfl⟩;have HN:=hide hn;rw[←hn]at hl⊢
 have dne:((n:Int) != (n:Int))=false:=by simp
 have hneq:=neq_ent;have HNEQ:=hide hneq;clear h1 h2 hle hn hneq
 go_enter Tryz.func13,Tryz.ntmps13
 go_wp2_with fail
 go_loopw [5] (fun i wq=>∃ j d:Nat,j≤n∧i=.int .i64 j∧wq=w.drewN d) (fun i _=>n-(intOf i).toNat)
 case atStart=>exact⟨0,0,by omega,rfl,rfl⟩
 case round =>
  obtain⟨j,d,hj,rfl,rfl⟩:=hrel;by_cases hlt:j<n
  ·have hd1:decide ((j:Int)<(n:Int))=true:=by simp;omega
   have hji:(j:Int)<(n:Int):=by omega
   obtain⟨es,hes⟩:∃ es,ls[j]? = some es:=⟨ls[j]'(by rw[←HN.out];exact hlt),List.getElem?_eq_getElem (by rw[←HN.out];exact hlt)⟩;obtain⟨b1,o1,ve1,rfl,a1,e1⟩:=H1.out j es hes;obtain⟨b2,o2,ve2,rfl,a2,e2⟩:=H2.out j es hes;obtain⟨B1,k1,rfl,e1⟩:=e1;obtain⟨B2,k2,rfl,e2⟩:=e2;obtain⟨m,hm⟩:∃ m,m=es.length:=⟨_,rfl⟩
   have hm9:m≤1000000000:=by rw[hm];exact HL.out es (List.mem_of_getElem? hes)
   have HM:=hide hm;rw[←hm]at a1 a2;have E1:=hide e1;have E2:=hide e2
   have dnm:((m:Int) != (m:Int))=false:=by simp
   clear hes e1 e2 hm
   go_wp2_with fail
   go_quiet (fail)
   go_wp2_with fail
   go_loopw [6] (fun i wq=>∃ k d:Nat,k≤m∧i=.int .i64 k∧wq=w.drewN d) (fun i _=>m-(intOf i).toNat)
   case atStart=>exact⟨0,_,by omega,rfl,World.drewN_drewN _ _ _⟩
   case round =>
    obtain⟨k,d2,hk,rfl,rfl⟩:=hrel;by_cases hlt2:k<m
    ·have hd2:decide ((k:Int)<(m:Int))=true:=by simp;omega
     have hki:(k:Int)<(m:Int):=by omega
     obtain⟨e,he⟩:∃ e,es[k]? = some e:=⟨es[k]'(by rw[←HM.out];exact hlt2),List.getElem?_eq_getElem (by rw[←HM.out];exact hlt2)⟩;obtain⟨bb1,oo1,rfl,x1,y1,z1⟩:=E1.out k e he;obtain⟨bb2,oo2,rfl,x2,y2,z2⟩:=E2.out k e he;obtain⟨x,y,z⟩:=e;simp only at x1 y1 z1 x2 y2 z2;have hq:=HNEQ.out x y z;clear he
     go_wp2_with fail
     go_quiet (fail)
     go_wp2_with fail
     go_roundw
     case rel=>exact⟨k+1,_,by omega,by go_num,rfl⟩
     case measure=>simp[intOf];omega
    ·have hd2:decide ((k:Int)<(m:Int))=false:=by simp;omega
     go_wp2_with fail
     go_roundw
     case rel=>exact⟨j+1,_,by omega,by go_num,rfl⟩
     case measure=>simp[intOf];omega
  ·have hd1:decide ((j:Int)<(n:Int))=false:=by simp;omega
   go_wp2_with fail
   go_ret
   exact⟨rfl,_,rfl⟩
end RecW
namespace RecW
open RowKit Rec BufW I64
theorem RdB.vals{w:World}{A:Option Addr}{c:Nat}{ls:List (List E3)}(h:RdB w (.slice A ls.length c) ls):∃ vs:List Value,vs.length=ls.length∧Rd w A vs∧(∀(i:Nat) es,ls[i]? = some es→∃ ve,vs[i]? = some ve∧RdE w ve es)∧∀ u∈vs,u.oneCell'=true:=by
 obtain⟨A',c',hv,h⟩:=h
 obtain⟨rfl,rfl⟩:A=A'∧c=c':=by injection hv with h1 h2 h3;exact⟨h1,h3⟩
 clear hv
 have key:∀ i:Nat,∃ve:Value,∀es,ls[i]? = some es→(∃b off,A=some ⟨b,off,none⟩∧w.cell? ⟨b,off+i,none⟩=some ve)∧RdE w ve es:=fun i=>by
  cases hi:ls[i]? with
  |none=>exact⟨undef,fun es he=>by cases he⟩
  |some es =>
   obtain⟨b,off,ve,h1,h2,h3⟩:=h i es hi;exact⟨ve,fun es' he=>by injection he with he;subst he;exact⟨⟨b,off,h1,h2⟩,h3⟩⟩
 obtain⟨f,hf⟩:=Classical.axiomOfChoice key
 have hat:∀ i,i<ls.length→((List.range ls.length).map f)[i]? = some (f i):=fun i hi=>by rw[List.getElem?_map,List.getElem?_range hi];rfl
 refine⟨(List.range ls.length).map f,by simp,?_,fun i es hi=>⟨f i,hat i (List.getElem?_eq_some_iff.1 hi).1,(hf i es hi).2⟩,fun u hu=>?_⟩
 ·cases hl:ls with
  |nil=>exact .inl rfl
  |cons e0 l0 =>
   obtain⟨⟨b,off,hA,-⟩,-⟩:=hf 0 e0 (by rw[hl];rfl);refine .inr ⟨b,off,hA,fun i u hu=>?_⟩;rw[←hl]at hu
   have hlt:i<ls.length:=by
    have:=(List.getElem?_eq_some_iff.1 hu).1;simpa using this
   rw[hat i hlt]at hu;injection hu with hu;subst hu;obtain⟨⟨b',off',hA',hc⟩,-⟩:=hf i ls[i] (List.getElem?_eq_getElem hlt);rw[hA]at hA';injection hA' with hA';injection hA' with h1 h2;subst h1 h2;exact hc
 ·obtain⟨i,hi,rfl⟩:=List.mem_map.1 hu;have hlt:=List.mem_range.1 hi;obtain⟨-,A2,c2,hv,-⟩:=hf i ls[i] (List.getElem?_eq_getElem hlt);rw[hv];rfl
def OwnB(w0 w:World)(base:Nat)(v:Value)(ls:List (List E3)):Prop :=
 ∃vs:List Value,w.ownsRow base 27 1 v ls.length vs∧vs.length=ls.length∧∀ (i:Nat) es,ls[i]? = some es→∃ ve,vs[i]? = some ve∧RdE w0 ve es
theorem OwnB.rd{w0 w:World}{base:Nat}{v:Value}{ls:List (List E3)}(h:OwnB w0 w base v ls)(hb:Below w0.heap.size w0 w):RdB w v ls:=by
 obtain⟨vs,h1,h2,h3⟩:=h;obtain⟨A,c,rfl,-,-,hr,-,-⟩:=dL h1;refine⟨A,c,rfl,fun i es hi=>?_⟩;obtain⟨ve,hv,he⟩:=h3 i es hi;rcases hr with rfl|⟨b,off,rfl,hc⟩
 ·simp at hv
 ·exact⟨b,off,ve,rfl,hc i ve hv,he.below hb⟩
theorem OwnB.empty(w0 w:World):OwnB w0 (w.alloc (.cells #[] 27)) w.heap.size (.slice (some ⟨w.heap.size,0,none⟩) 0 0) [] :=
 ⟨[],⟨rfl,.inr ⟨w.heap.size,0,#[],rfl,Nat.le_refl _,heap_alloc_new w _,Nat.le_refl _,Nat.zero_le _,rfl,rfl⟩⟩,rfl,fun i es hi=>by simp at hi⟩
theorem wpList_bats{w0 w:World}{ops:Array Oper}{rest:List Oper}{o:Oper}{a:Act}{Q:Exit→Act→World→Prop}{base:Nat}{v v2:Value}{ls ls2:List (List E3)}(hgd:o.guard=none)(s x:Operand)
 (ho:o.op=.call {callee:=.builtin .append,args:=#[s,x],argTypes:=#[22,22]})
 (hs:a.eval s=v) (h:OwnB w0 w base v ls) (hx:a.eval x=v2) (h2:RdB w0 v2 ls2) (hb0:Below w0.heap.size w0 w) (hl:ls.length+ls2.length≤1000000000) (hbase:base≤w.heap.size)
 (hK:∀ (v':Value) (w':World),OwnB w0 w' base v' (ls++ls2)→Fr base (rowK 27) w w'→wpList Tryz.prog ops Q rest (a.put o.dst v') w'):wpList Tryz.prog ops Q (o::rest) a w:=by
 obtain⟨i,hi,hz,hsz,hby⟩:=info_parts nN;have h2':=h2;obtain⟨A,c,rfl,-⟩:=h2';obtain⟨vs2,hl2,hr2,hr3,hone⟩:=h2.vals;obtain⟨vs,h1,hvl,h3⟩:=h;refine dH w hgd s x 22 ho base 27 i _ 24 Tryz.underlying22 hi hz hsz hby rfl v ls.length vs hs h1 A ls2.length c vs2 hx hl2 (hr2.below hb0) hone (by simp only[maxLen];omega) (by omega) hbase ?_;intro v' w5 ho5 hg5
 have f5:Fr base (rowK 27) w w5:=Fr.row hg5 hbase fun k hk=>⟨(World.ownsRow.lt h1 k hk).1,fun o ho=>by
  rcases h1.2 with⟨rfl,-⟩|⟨g,cap,cur,rfl,-,hh,-⟩
  ·cases hk
  ·have:g=k:=by simpa[Value.ownBlock] using hk
   subst this;rw[hh]at ho;injection ho with ho;subst ho
   rfl⟩
 refine hK v' w5 ⟨vs++vs2,by rw[List.length_append];exact ho5,by rw[List.length_append,List.length_append,hvl,hl2],fun i es hie=>?_⟩ f5;rcases Nat.lt_or_ge i ls.length with hlt|hge
 ·rw[List.getElem?_append_left hlt]at hie;rw[List.getElem?_append_left (by omega)];exact h3 i es hie
 ·rw[List.getElem?_append_right hge]at hie;rw[List.getElem?_append_right (by omega),hvl];exact hr3 _ es hie
theorem entv_at{l:List Ent}{i:Nat}{e:Ent}(h:l[i]? = some e):(entv l)[i*3]? = some (.int .i64 (e.1:Int))∧(entv l)[i*3+1]? = some (.int .i64 (e.2.1:Int))∧(entv l)[i*3+2]? = some (.int .i64 (e.2.2:Int)):=by
 induction l generalizing i with
 |nil=>simp at h
 |cons a l ih =>
  cases i with
  |zero =>
   simp only[List.getElem?_cons_zero,Option.some.injEq]at h;subst h;exact⟨rfl,rfl,rfl⟩
  |succ i =>
   have:=ih (by simpa using h);rw[show(i+1)*3=i*3+1+1+1 from by omega];simpa[entv] using this
def intE(es:List Ent):List E3:=es.map fun e=>((e.1:Int),(e.2.1:Int),(e.2.2:Int))
theorem intE_nat{es:List E3}(h:∀ e∈es,okE3 e):intE (natE es)=es:=by
 induction es with
 |nil=>rfl
 |cons e es ih =>
  obtain⟨h1,h2,h3⟩:=h e (List.mem_cons_self ..);unfold inN at h1 h2 h3;have:=ih (fun e he=>h e (List.mem_cons_of_mem _ he));simp only[intE,natE,List.map_cons,List.map_map]at this⊢;rw[this]
  congr 1
  simp only[toN];obtain⟨x,y,z⟩:=e;simp only at h1 h2 h3⊢;rw[Int.toNat_of_nonneg h1.1,Int.toNat_of_nonneg h2.1,Int.toNat_of_nonneg h3.1]
theorem lN{es:List E3}(h:aN es=0):es.length≤64∧∀ e∈es,okE3 e:=by
 unfold aN at h;by_cases h1:64<es.length
 ·rw[if_pos h1]at h;cases h
 ·rw[if_neg h1]at h;by_cases h2:∀ e∈es,okE3 e
  ·exact⟨by omega,h2⟩
  ·rw[if_neg h2]at h;cases h
theorem okB_nat{es:List E3}(h:aN es=0):okB (natE es):=by
 obtain⟨h1,h2⟩:=lN h;refine⟨by rw[natE,List.length_map];exact h1,fun e he=>?_⟩;obtain⟨x,hx,rfl⟩:=List.mem_map.1 he;obtain⟨a,b,c⟩:=h2 x hx;unfold inN at a b c;unfold okE toN top;simp only;omega
theorem aV.rd{w:World}{base:Nat}{v:Value}{es:List Ent}(h:aV w base v es):RdE w v (intE es):=by
 obtain⟨A,c,rfl⟩:=h.form;refine⟨A,c,by rw[intE,List.length_map],fun i e hi=>?_⟩;rw[intE,List.getElem?_map]at hi
 cases hx:es[i]? with
 |none=>rw[hx]at hi;cases hi
 |some x =>
  rw[hx]at hi;injection hi with hi;subst hi;obtain⟨g,c',hv,-,-⟩:=World.ownsRow.form h (by have:=(List.getElem?_eq_some_iff.1 hx).1;omega);injection hv with hA _ hc;subst hA hc;have hc:=fun j u hu=>World.ownsRow.cells h (g:=g) rfl j u hu;obtain⟨q0,q1,q2⟩:=entv_at hx;have k0:=hc _ _ q0;have k1:=hc _ _ q1;have k2:=hc _ _ q2;rw[Addr.add_lit]at k0 k1 k2;exact⟨g,0,rfl,k0,by rw[Nat.add_assoc];exact k1,by rw[Nat.add_assoc];exact k2⟩
theorem dh.rd{w:World}{base:Nat}{v:Value}{ls:List (List Ent)}(h:dh w base v ls):RdB w v (ls.map intE):=by
 obtain⟨A,c,rfl⟩:=h.form;obtain⟨R,h1,h2,h3⟩:=h;refine⟨A,c,by rw[List.length_map],fun i es hi=>?_⟩;have hr:=Rd.of_own h2;rw[List.getElem?_map]at hi
 cases hx:ls[i]? with
 |none=>rw[hx]at hi;cases hi
 |some x =>
  rw[hx]at hi;injection hi with hi;subst hi;rw[←h1,List.getElem?_map]at hx
  cases hq:R[i]? with
  |none=>rw[hq]at hx;cases hx
  |some q =>
   rw[hq]at hx;injection hx with hx;subst hx
   have hv:(R.map (·.2))[i]? = some q.2:=by rw[List.getElem?_map,hq];rfl
   rcases hr with hn|⟨b,off,rfl,hc⟩
   ·rw[hn]at hv;simp at hv
   ·exact⟨b,off,q.2,rfl,hc i _ hv,(h3 q (List.mem_of_getElem? hq)).rd⟩
end RecW
namespace NoteP
open Rec SlotP SlotW RecW Fram
theorem natL_back{ls:List (List E3)}(h:∀ es∈ls,aN es=0):(natL ls).map intE=ls:=by
 rw[natL,List.map_map]
 conv=>rhs;rw[←List.map_id ls]
 exact List.map_congr_left fun es he=>intE_nat (lN (h es he)).2
theorem natL_ok{ls:List (List E3)}(h:∀ es∈ls,aN es=0):∀ es∈natL ls,okB es:=fun es he=>by
 obtain⟨q,hq,rfl⟩:=List.mem_map.1 he;exact okB_nat (h q hq)
def bytesOf(ls:List (List E3)):List UInt8:=flat (natL ls)
theorem reads_back{ls:List (List E3)}(h:∀ es∈ls,aN es=0):Rec.read (bytesOf ls)=(natL ls,[]):=by
 have e:bytesOf ls=flat (natL ls)++[]:=by rw[List.append_nil];rfl
 rw[e];exact read_eq (natL_ok h) decB_nil
theorem oG(ls:List (List E3)):ls.length*5≤(bytesOf ls).length:=by
 have:=flat_len (natL ls);rwa[natL,List.length_map]at this
def bY(s:Nat)(ls:List (List E3)):List UInt8:=slotB s (bytesOf ls)
structure St(i:Nat)(any:Bool)(a b:List UInt8)(ls:List (List E3)):Prop where
 ok:∀ es∈ls,aN es=0
 small:(bytesOf ls).length≤4096
 none:any=false→ls=[]∧¬ Whole a∧¬ Whole b
 some:any=true→ls≠[]∧∃ s,s≤i∧(a=bY s ls∧(Whole b→seqS b<s)∨b=bY s ls∧(Whole a→seqS a<s))
theorem kR:¬ Whole []:=fun h=>by have:=h.1;simp at this
theorem St.start:St 0 false [] [] []:=⟨(fun es he=>by cases he),(by simp[bytesOf,natL,flat]),fun _=>⟨rfl,kR,kR⟩,(fun h=>by cases h)⟩
theorem dG{s:Nat}{ls:List (List E3)}(hs:s≤4611686018427387904)(hl:(bytesOf ls).length≤4096):seqS (bY s ls)=s∧longS (bY s ls)=(bytesOf ls).length∧bodyS (bY s ls)=bytesOf ls∧Whole (bY s ls):=by
 have:=slot_reads s (bytesOf ls) [] hs hl;rw[List.append_nil]at this;exact this
theorem slotOf_len(s:Nat)(ls:List (List E3)):(bY s ls).length=16+(bytesOf ls).length:=gu _ _
def kY(a b:List UInt8)(k:Int):Prop:=(¬Whole a∧¬ Whole b∧k=0)∨∃(kk:Int) (l:List UInt8),Sel a b kk l∧k=1-kk
theorem kY.range{a b:List UInt8}{k:Int}(h:kY a b k):k=0∨k=1:=by
 rcases h with⟨-,-,h⟩|⟨kk,l,⟨rfl,-⟩|⟨rfl,-⟩,h⟩
 ·exact .inl h
 ·exact .inr h
 ·exact .inl h
theorem St.next{i:Nat}{any:Bool}{a b:List UInt8}{ls:List (List E3)}{k:Int}(h:St i any a b ls)(hi:i≤4611686018427387904)(hk:kY a b k) :
 (k=0∧(any=true→ls≠[]∧∃ s,s≤i∧b=bY s ls)∧(any=false→¬ Whole b)∧(Whole b→seqS b≤i))∨(k=1∧(any=true→ls≠[]∧∃ s,s≤i∧a=bY s ls)∧any=true∧(Whole a→seqS a≤i)):=by
 cases any with
 |false =>
  obtain⟨-,na,nb⟩:=h.none rfl;rcases hk with⟨-,-,rfl⟩|⟨kk,l,⟨-,-,w,-⟩|⟨-,-,w,-⟩,-⟩
  ·exact .inl ⟨rfl,(fun e=>by cases e),fun _=>nb,fun w=>absurd w nb⟩
  ·exact absurd w na
  ·exact absurd w nb
 |true =>
  obtain⟨hne,s,hs,⟨rfl,hb⟩|⟨rfl,ha⟩⟩:=h.some rfl
  ·obtain⟨r1,-,-,rw_⟩:=dG (Nat.le_trans hs hi) h.small;rcases hk with⟨n,-,-⟩|⟨kk,l,⟨rfl,-,-,-⟩|⟨rfl,-,w,c⟩,rfl⟩
   ·exact absurd rw_ n
   ·exact .inr ⟨rfl,fun _=>⟨hne,s,hs,rfl⟩,rfl,fun _=>by rw[r1];exact hs⟩
   ·have:=hb w;have:=c rw_;omega
  ·obtain⟨r1,-,-,rw_⟩:=dG (Nat.le_trans hs hi) h.small;rcases hk with⟨-,n,-⟩|⟨kk,l,⟨rfl,-,w,c⟩|⟨rfl,-,-,-⟩,rfl⟩
   ·exact absurd rw_ n
   ·have:=ha w;have:=c rw_;omega
   ·exact .inl ⟨rfl,fun _=>⟨hne,s,hs,rfl⟩,(fun e=>by cases e),fun _=>by rw[r1];exact hs⟩
theorem St.put{i:Nat}{any:Bool}{a b a' b':List UInt8}{ls ls':List (List E3)}{k:Int}(h:St i any a b ls)(hi:i<4611686018427387904)(hk:kY a b k)(hok:∀ es∈ls',aN es=0)(hsm:(bytesOf ls').length≤4096)(hne:ls'≠[])
 (ha:a'=if k=0 then bY (i+1) ls' else a) (hb:b'=if k=0 then b else bY (i+1) ls'):St (i+1) true a' b' ls':=by
 refine⟨hok,hsm,(fun e=>by cases e),fun _=>⟨hne,i+1,Nat.le_refl _,?_⟩⟩;rcases h.next (by omega) hk with⟨rfl,-,-,hw⟩|⟨rfl,-,-,hw⟩
 ·rw[if_pos rfl]at ha hb;subst ha hb;exact .inl ⟨rfl,fun w=>by have:=hw w;omega⟩
 ·rw[if_neg (by decide)]at ha hb;subst ha hb;exact .inr ⟨rfl,fun w=>by have:=hw w;omega⟩
theorem St.cut{i n:Nat}{any:Bool}{a b a' b':List UInt8}{ls ls':List (List E3)}{k:Int}(h:St i any a b ls)(hi:i<4611686018427387904)(hk:kY a b k)(hsm:(bytesOf ls').length≤4096)(hn:n<16+(bytesOf ls').length)
 (ha:a'=if k=0 then(bY (i+1) ls').take n else a) (hb:b'=if k=0 then b else(bY (i+1) ls').take n):St (i+1) any a' b' ls:=by
 have hp:¬ Whole ((bY (i+1) ls').take n):=part_not_whole (i+1) (bytesOf ls') (by omega) hsm n hn;refine⟨h.ok,h.small,fun e=>?_,fun e=>?_⟩
 ·obtain⟨h1,h2,h3⟩:=h.none e;refine⟨h1,?_,?_⟩
  ·rw[ha];split
   ·exact hp
   ·exact h2
  ·rw[hb];split
   ·exact h3
   ·exact hp
 ·rcases h.next (by omega) hk with⟨rfl,hs,-,-⟩|⟨rfl,hs,-,-⟩
  ·rw[if_pos rfl]at ha hb;obtain⟨h1,s,h2,rfl⟩:=hs e;subst ha hb;exact⟨h1,s,by omega,.inr ⟨rfl,fun w=>absurd w hp⟩⟩
  ·rw[if_neg (by decide)]at ha hb;obtain⟨h1,s,h2,rfl⟩:=hs e;subst ha hb;exact⟨h1,s,by omega,.inl ⟨rfl,fun w=>absurd w hp⟩⟩
theorem St.sel{i:Nat}{a b l:List UInt8}{ls:List (List E3)}{k:Int}{any:Bool}(h:St i any a b ls)(hi:i≤4611686018427387904)(hs:Sel a b k l):any=true∧bodyS l=bytesOf ls∧longS l=(bytesOf ls).length:=by
 cases any with
 |false =>
  obtain⟨-,na,nb⟩:=h.none rfl;rcases hs with⟨-,-,w,-⟩|⟨-,-,w,-⟩
  ·exact absurd w na
  ·exact absurd w nb
 |true =>
  refine⟨rfl,?_⟩;obtain⟨-,s,h2,⟨rfl,hb⟩|⟨rfl,ha⟩⟩:=h.some rfl
  ·obtain⟨r1,r2,r3,rw_⟩:=dG (Nat.le_trans h2 hi) h.small;rcases hs with⟨-,rfl,-,-⟩|⟨-,-,w,c⟩
   ·exact⟨r3,r2⟩
   ·have:=hb w;have:=c rw_;omega
  ·obtain⟨r1,r2,r3,rw_⟩:=dG (Nat.le_trans h2 hi) h.small;rcases hs with⟨-,-,w,c⟩|⟨-,rfl,-,-⟩
   ·have:=ha w;have:=c rw_;omega
   ·exact⟨r3,r2⟩
theorem St.nosel{i:Nat}{a b:List UInt8}{ls:List (List E3)}{any:Bool}(h:St i any a b ls)(hi:i≤4611686018427387904)(na:¬ Whole a)(nb:¬ Whole b):any=false:=by
 cases any with
 |false=>rfl
 |true =>
  obtain⟨-,s,h2,⟨rfl,-⟩|⟨rfl,-⟩⟩:=h.some rfl
  ·exact absurd (dG (Nat.le_trans h2 hi) h.small).2.2.2 na
  ·exact absurd (dG (Nat.le_trans h2 hi) h.small).2.2.2 nb
end NoteP
namespace SlotW
open RowKit Fram SlotP CrcW Crc
theorem low_int(base:Nat)(v:Value)(k m:Nat)(q:Int)(xs:List UInt8)(x:Int)(w:World)(hown:OwnI w base v k (u8v xs))(hbase:base≤w.heap.size)(hk:k≤1000000)(hm:m≤8)(hq:q=(m:Int))(hx:0≤x) :
 Calls Tryz.prog 25 #[v,.int .u64 x,.int .i64 q] w fun e w'=>∃ A c,e=.returned (.slice A (k+m) c)∧k+m≤c∧OwnI w' base (.slice A (k+m) c) (k+m) (u8v (xs++lowB x.toNat m))∧Below base w w':=by
 subst hq;obtain⟨x,rfl⟩:=Int.eq_ofNat_of_zero_le hx;refine(low_any base v k m xs x w hown hbase hk hm).mono ?_;rintro e w' ⟨v',rfl,ho,hb⟩;obtain⟨A,c,rfl,hc⟩:=ho.form;exact⟨A,c,rfl,hc,ho,hb⟩
attribute [local irreducible] slotB headB lowB
theorem head_step(seq:Nat)(l:List UInt8):([]++lowB seq 8)++lowB l.length 4++l=headB seq l:=by
 unfold headB;simp
set_option maxRecDepth 100000 in
set_option maxHeartbeats 2000000 in
theorem put_ok(seq:Int)(A:Option Addr)(l:List UInt8)(n c:Nat)(w:World)(hn:n=l.length)(h0:0≤seq)(h1:seq≤4611686018427387904)(hm:n≤4096)(hr:Rd w A (u8v l)) :
 Calls Tryz.prog 7 #[.int .i64 seq,.slice A n c] w fun e w'=>∃ B c',e=.returned (.tuple #[.slice B (16+n) c',.nilIface])∧16+n≤c'∧OwnI w' w.heap.size (.slice B (16+n) c') (16+n) (u8v (slotB seq.toNat l))∧Below w.heap.size w w':=by
 have x1:IntKind.u64.wrap seq=seq:=by rw[IntKind.wrap_u64];omega
 have x2:IntKind.u64.wrap (n:Int)=(n:Int):=by rw[IntKind.wrap_u64];omega
 have HN:=hide hn;clear hn
 go_enter Tryz.func7,Tryz.ntmps7
 go_wp2_with fail
 refine(low_int w.heap.size (.slice none 0 0) 0 8 _ [] seq _ ⟨World.ownsRow_nil _ _ _ _,IRow.nil _⟩ (Nat.le_refl _) (by omega) (by omega) rfl h0).mono ?_;rintro e w1 ⟨B1,c1,rfl,hc1,ho1,hb1⟩
 go_wp2_with fail
 refine(low_int w.heap.size _ (0+8) 4 _ _ (n:Int) _ ho1 hb1.size (by omega) (by omega) rfl (by omega)).mono ?_;rintro e w2 ⟨B2,c2,rfl,hc2,ho2,hb2⟩;have hb02:=hb1.trans hb2;have hr2:=hr.below hb02;have hs2:=hb02.size
 go_wp2_with (first
  |(at_builtin
    refine wpList_appI _ rfl _ _ rfl w.heap.size _ (0+8+4) _ rfl (by exact ho2) A n c l rfl HN.out (by exact hr2) (by omega) hs2 ?_;intro B3 c3 w3 hc3 ho3 hb3
    have hb03:=hb02.trans hb3))
 have hs3:=hb03.size;have HH:Hid (([]++lowB seq.toNat 8)++lowB (n:Int).toNat 4++l=headB seq.toNat l):=hide (by rw[Int.toNat_natCast,HN.out];exact head_step _ _);rw[HH.out]at ho3;obtain⟨C,hC⟩:∃ C,C=crc (headB seq.toNat l):=⟨_,rfl⟩;have hCl:=C.isLt
 have x4:IntKind.u64.wrap (C.toNat:Int)=(C.toNat:Int):=by rw[IntKind.wrap_u64];omega
 have HC:=hide hC;have HHL:=hide (show 0+8+4+n=(headB seq.toNat l).length by rw[lZ,←HN.out]);clear hC
 go_wp2_with fail
 refine(crc_any B3 (headB seq.toNat l) _ c3 _ HHL.out (by omega) (own_rd ho3.1)).mono ?_;rintro e w4 ⟨rfl,rfl⟩;rw[←HC.out]
 go_wp2_with fail
 refine(low_int w.heap.size _ (0+8+4+n) 4 _ _ (C.toNat:Int) _ ho3 hs3 (by omega) (by omega) rfl (by omega)).mono ?_;rintro e w5 ⟨B5,c5,rfl,hc5,ho5,hb5⟩
 go_wp2_with fail
 go_ret2
 have e16:0+8+4+n+4=16+n:=by omega
 have hS:headB seq.toNat l++lowB ((C.toNat:Int)).toNat 4=slotB seq.toNat l:=by unfold slotB;rw[Int.toNat_natCast,HC.out]
 rw[hS,e16]at ho5;rw[e16]at hc5;refine⟨B5,c5,?_,hc5,ho5,hb03.trans hb5⟩;rw[show 12+n+4=16+n by omega];rfl
end SlotW
namespace Cl
open Conc Co Ph RowKit
theorem vr_int{ok:FuncId→Bool}{f:Fm}{k:IntKind}{n:Int}{u:Value}(h:VR ok f (.int k n) u):u=.int k n:=by
 cases h;rfl
def ArgOk(B:Nat→Prop)(u:Value):Prop:=(∃k n,u=.int k n)∨∃a n c,u=.slice a n c∧∀ ad,a=some ad→B ad.block∧0<c
section
variable {Q:Value→World→Prop}{E:Env}{K Z:Nat→Prop}{W:World}{cs:List Frame}{fn:FuncId}{t:Array Value}{todo k:List Item}{m:FrameMode}{w0:World}
theorem winsR_cl{F:FuncId}{ops:Array Oper}{i:Nat}{rest:List Nat}{o:Oper}{xs:Array Operand}{vs:Array Value}{B:Nat→Prop}{R:Array Value→World→Value→World→Prop}(hl:LawOk E K W)(hKZ:∀ x,K x→¬ Z x)
 (ho:ops[i]? = some o) (hw:∀ t',Region.wanted o (yielded ops t')=true) (hxo:∀ x∈xs,Co.OkX E x)
 (hr:∀ t' w,(execOp (Act.eval ⟨t',[]⟩) o).run Tryz.prog w=.ok (.enter F (xs.map (Act.eval ⟨t',[]⟩))) w) (hev:∀ t' w,(execOp (Act.eval ⟨t',[]⟩) o).events Tryz.prog w #[]=#[])
 (hF:okl okR F) (hx:xs.map (Act.eval ⟨t,[]⟩)=vs) (hvs:∀ u∈vs,ArgOk B u) (hB:∀ b,B b→∃ c e fz,w0.heap[b]? = some (.cells c e fz)∧∀ u∈c,∃k n,u=.int k n)
 (hR:∀ vs' w v w' τ d,R vs' w v w'→R vs' w v (Co.re w' τ d))
 (hc:∀ f vs' w,AR E.ok f vs vs'→WR E f (Co.re w0 w.tape w.drawn) w→∀ τ d,Calls Tryz.prog F vs' (Co.re w τ d) fun|.returned v,w'=>R vs' w v w'∧w.heap.size≤w'.heap.size∧(∀x,x<w.heap.size→w'.heap[x]? = w.heap[x]?)|_,_=>False)
 (hk:∀ (f:Fm) (vs':Array Value) (w:World) (v:Value) (w':World) (c:Frame),AR E.ok f vs vs'→WR E f (Co.re w0 w'.tape w'.drawn) w'→Side E K W Z f w'→w.heap.size≤w'.heap.size→(∀r x,f r=some x→x<w.heap.size)→(∀x,E.ro x→x<w.heap.size)→(∀x,Z x→x<w.heap.size)→(∀x,K x→x<w.heap.size)→R vs' w v w' →
  (∀(v0:Value) (f2:Fm) (u2:World),f.le f2→VR E.ok f2 v0 v→WR E f2 (Co.re u2 w'.tape w'.drawn) w'→Side E K W Z f2 w'→WinsR Tryz.prog Q E K W Z cs fn (Act.put ⟨t,[]⟩ o.dst v0).tmps (.inRegion ops rest::k) .run u2→Wins Tryz.prog Q Z (G (c.finish v) cs) w')→Wins Tryz.prog Q Z (G (c.finish v) cs) w') :
 WinsR Tryz.prog Q E K W Z cs fn t (.inRegion ops (i::rest)::k) .run w0:=by
 intro f t' w ha hwr hs;have he:=ev_rel (fr:=(base fn).at ⟨t,[]⟩ (.inRegion ops (i::rest)::k)) (fr':=(base fn).at ⟨t',[]⟩ (.inRegion ops (i::rest)::k)) ha;rw[Frame.eval_at',Frame.eval_at']at he
 have hargs:AR E.ok f vs (xs.map (Act.eval ⟨t',[]⟩)):=by
  rw[←hx];exact map_rel he hxo
 obtain⟨vs',hvs'⟩:∃ vs',vs'=xs.map (Act.eval ⟨t',[]⟩):=⟨_,rfl⟩;rw[←hvs']at hargs;refine dB rfl fun τ d=>⟨G (Frame.enter Tryz.prog F vs' .normal) (Co.fr fn t' (.inRegion ops (i::rest)::k) .run::cs),w,d,#[],?_,Nat.le_refl _,fun e he=>by simp at he,?_⟩
 ·have hst:=stepG_enter (P:=Tryz.prog) (main:=true) (b:=base fn) (a:=⟨t',[]⟩) (k:=k) (cs:=cs) (rest:=rest) ho (hw t') (by simp[base]) (hr t' (Co.re w τ d))
  have hls:listed Tryz.prog (base fn).fn ⟨t',[]⟩ o (Co.re w τ d)=#[]:=by
   unfold listed;rw[hev];rfl
  rw[hls,←hvs']at hst;exact hst
 ·have hfin:∀ v,(Co.fr fn t' (.inRegion ops (i::rest)::k) .run).finish v=Co.fr fn (Act.put ⟨t',[]⟩ o.dst v).tmps (.inRegion ops rest::k) .run:=fun v=>by
   have:=dW (y:=⟨fn,t',.inRegion ops (i::rest)::k,false⟩) (v:=v) rfl;rw[ho]at this;exact this
  have hG:K Tryz.prog.globals.size:=hl.low _ (Nat.le_refl _);obtain⟨A,hA⟩:∃ A:Nat→Prop,A=fun x=>(∃b,B b∧f b=some x)∨x=Tryz.prog.globals.size∨w.heap.size≤x:=⟨_,rfl⟩;refine wins_call (A:=A) (sndR (by show A _;rw[hA];exact .inr (.inl rfl))) (fun x hz hx=>?_) (R:=fun v w'=>R vs' w v w'∧w.heap.size≤w'.heap.size∧(∀x,x<w.heap.size→w'.heap[x]? = w.heap[x]?)) (fun v w' τ d h=>⟨hR _ _ _ _ _ _ h.1,h.2⟩) hF ?_ ?_ (fun τ d=>hc f vs' w hargs hwr τ d) ?_
  ·rw[hA]at hx;rcases hx with⟨b,-,hb⟩|h|h
   ·exact(rng hl hwr hs hb).2 hz
   ·rw[h]at hz;exact hKZ _ hG hz
   ·have:=hs.zed x hz;omega
  ·intro u' hu';obtain⟨j,hj,rfl⟩:=Array.mem_iff_getElem.1 hu'
   have hj2:j<vs.size:=by rw[hargs.size];exact hj
   obtain⟨u2,q1,q2⟩:=hargs.get (Array.getElem?_eq_getElem hj2);rw[Array.getElem?_eq_getElem hj]at q1;cases q1;rcases hvs _ (Array.getElem_mem hj2) with⟨kk,n,hu⟩|⟨a,n,c,hu,hab⟩
   ·rw[hu]at q2;rw[vr_int q2];exact .int _ _
   ·rw[hu]at q2;generalize vs'[j]=z at q2
    cases q2 with
    |sliceN=>exact .sliceN _ _
    |@slice b b' off spot _ _ h =>
     refine .slice ?_;show A _;rw[hA];exact .inl ⟨_,(hab _ rfl).1,h⟩
    |slice0 a a'=>exact absurd (hab _ rfl).2 (Nat.lt_irrefl _)
  ·refine⟨fun r ob hr hob=>?_,fun x hx=>?_⟩
   ·have hr:A r:=hr;rw[hA]at hr;rcases hr with⟨b,hb,hfb⟩|h|h
    ·obtain⟨c,e,fz,h1,h2⟩:=hB b hb;obtain⟨x,x',k1,k2,k3⟩:=hwr.obj _ _ hfb;rw[show(Co.re w0 w.tape w.drawn).heap[b]? = _ from h1]at k1;cases k1;rw[k2]at hob;cases hob
     cases k3 with
     |cells ha hf =>
      refine .cells fun u' hu'=>?_;obtain⟨j,hj,rfl⟩:=Array.mem_iff_getElem.1 hu'
      have hj2:j<c.size:=by rw[ha.size];exact hj
      obtain⟨u2,q1,q2⟩:=ha.get (Array.getElem?_eq_getElem hj2);rw[Array.getElem?_eq_getElem hj]at q1;cases q1;obtain⟨kk,n,hu⟩:=h2 _ (Array.getElem_mem hj2);rw[hu]at q2;rw[vr_int q2];exact .int _ _
    ·rw[h,hs.old _ hG]at hob;exact hl.ty _ ob hob
    ·have:=(Array.getElem?_eq_some_iff.1 hob).1;omega
   ·show A x;rw[hA];exact .inr (.inr hx)
  ·rintro v w' ⟨hRv,hsz,hold⟩ - - hfw;have hrel:WR E f (Co.re w0 w'.tape w'.drawn) w':=hwr.rely ⟨hsz,fun y hy hy2=>hold y hy2⟩;have hs':Side E K W Z f w':=⟨fun y hy=>by rw[hold y (hs.low y hy)];exact hs.old y hy,fun y hy=>Nat.lt_of_lt_of_le (hs.low y hy) hsz,hs.own,fun y hy=>Nat.lt_of_lt_of_le (hs.zed y hy) hsz,fun y hy=>⟨Nat.lt_of_lt_of_le (hs.ro y hy).1 hsz,(hs.ro y hy).2⟩,Nat.le_trans hs.size hsz,hfw.os.trans hs.still.1,hfw.output.trans hs.still.2⟩;refine hk f vs' w v w' _ hargs hrel hs' hsz (fun r x h=>(hwr.lt h).2) (fun x h=>(hs.ro x h).1) hs.zed hs.low hRv fun v0 f2 u2 hle hv hw2 hs2 hwin=>?_;rw[hfin];exact hwin f2 _ w' (fG (ha.mono hle) hv _) hw2 hs2
end
end Cl
namespace Cl
open Conc Co Ph RowKit
theorem rd_of{E:Env}{f:Fm}{w0 w:World}{A:Option Addr}{n c:Nat}{l:List UInt8}{x':Value}(hw:WR E f w0 w)(hv:VR E.ok f (.slice A n c) x')(hr:Rd w0 A (u8v l)):∃ A',x'=.slice A' n c∧(0<c∨A=none∨l=[]→Rd w A' (u8v l)):=by
 rcases hr with h0|⟨b,off,rfl,hc⟩
 ·cases hv with
  |sliceN=>exact⟨_,rfl,fun _=>.inl h0⟩
  |slice h=>exact⟨_,rfl,fun _=>.inl h0⟩
  |slice0 a a'=>exact⟨_,rfl,fun _=>.inl h0⟩
 ·cases hv with
  |@slice _ b' _ _ _ _ h =>
   refine⟨_,rfl,fun _=>.inr ⟨b',off,rfl,fun i u hu=>?_⟩⟩;obtain⟨v',q1,q2⟩:=hw.load h (hc i u hu);rw[q1];have hu2:=hu;simp only[u8v,List.getElem?_map,Option.map_eq_some_iff]at hu2;obtain⟨x,-,rfl⟩:=hu2;rw[vr_int q2]
  |slice0 a a' =>
   refine⟨_,rfl,fun h=>?_⟩;rcases h with h|h|h
   ·exact absurd h (Nat.lt_irrefl _)
   ·cases h
   ·subst h;exact .inl rfl
theorem rowsC_own{w:World}{base n c:Nat}{D:Option Addr}{e:TypeId}{xs:List Value}(h:w.ownsRow base e 1 (.slice D n c) n xs):RowsC w e 1 D n c xs∧∀ a,D=some a→base≤a.block:=by
 rcases h.2 with⟨hv,h0⟩|⟨g,cap,cur,hv,hb,hg,hnc,hm,hs,ht⟩
 ·injection hv with h1 h2 h3;subst h1 h2 h3;have hl:=h.1;exact⟨.inl ⟨rfl,rfl,rfl,List.eq_nil_of_length_eq_zero (by simpa using hl)⟩,fun a e=>by cases e⟩
 ·injection hv with h1 h2 h3;subst h1 h3;exact⟨.inr ⟨g,cur,(0,0),rfl,hg,fun o h1 h2=>by omega,hnc,hm,hs,ht⟩,fun a e=>by cases e;exact hb⟩
theorem vr_len{ok:FuncId→Bool}{f:Fm}{D0 D:Option Addr}{n c m d:Nat}(h:VR ok f (.slice D0 n c) (.slice D n c))(hd:c=d)(hm:m≤c):VR ok f (.slice D0 m d) (.slice D m d):=by
 subst hd
 cases h with
 |sliceN=>exact .sliceN _ _
 |slice h=>exact .slice h
 |slice0 a a' =>
  obtain rfl:m=0:=by omega
  exact .slice0 _ _
theorem row_takeI{E:Env}{f:Fm}{w0 w:World}{B m cap:Nat}{D:Option Addr}{xs:List Value}(hw:WR E f (Co.re w0 w.tape w.drawn) w)(h:OwnI w B (.slice D m cap) m xs)(hn:∀ a,D=some a→(∀r,f r≠some a.block)∧¬ E.ro a.block) :
 ∃(g:Fm) (D0:Option Addr) (o:Obj),f.le g∧VR E.ok g (.slice D0 m cap) (.slice D m cap)∧WR E g (Co.re {w0 with heap:=w0.heap.push o} w.tape w.drawn) w∧OwnI {w0 with heap:=w0.heap.push o} w0.heap.size (.slice D0 m cap) m xs∧(∀x,ownOf E g x→ownOf E f x∨∃a,D=some a∧x=a.block):=by
 rcases h.1.2 with⟨hv,h0⟩|⟨g,cap',cur,hv,hb,hg,hnc,hm,hs,ht⟩
 ·injection hv with e1 e2 e3;subst e1 e2 e3;have hx:xs=[]:=List.eq_nil_of_length_eq_zero (by simpa using h.1.1);subst hx;obtain⟨g,D0,o,q1,q2,q3,q4,q5⟩:=row_take (e:=5) (size:=1) (m:=0) (cap:=0) (xs:=[]) hw (.inl ⟨rfl,rfl,rfl,rfl⟩) (fun v hv=>by cases hv) rfl hn;rcases q4.2 with⟨hv2,-⟩|⟨g3,cap3,cur3,hv3,hb3,hg3,hnc3,hm3,hs3,ht3⟩
  ·injection hv2 with e1;subst e1;exact⟨g,_,o,q1,q2,q3,⟨q4,IRow.nil _⟩,q5⟩
  ·injection hv3 with e1 e2 e3;subst e1 e3;refine⟨g,_,o,q1,q2,q3,⟨q4,fun y hy=>?_⟩,q5⟩;simp[Value.ownBlock]at hy;subst hy;refine⟨_,_,_,hg3,fun u hu=>?_⟩;have:cur3.toList=[]:=List.eq_nil_of_length_eq_zero (by simpa using hs3);rw[this]at hu;cases hu
 ·injection hv with e1 e2 e3;subst e1 e3;obtain⟨c2,e2,fz2,hg2,hc2⟩:=h.2 g rfl;rw[hg]at hg2;cases hg2
  have hsl:cur.toList.length=cap:=by simpa using hs
  obtain⟨g2,D0,o,q1,q2,q3,q4,q5⟩:=row_take (e:=5) (size:=1) (m:=cap) (cap:=cap) (xs:=cur.toList) hw (.inr ⟨g,cur,(0,0),rfl,hg,fun o h1 h2=>by omega,Nat.le_refl _,hm,hs,by rw[Nat.mul_one,←hsl,List.take_length]⟩) hc2 (by rw[hsl,Nat.mul_one]) hn;refine⟨g2,D0,o,q1,vr_len q2 rfl hnc,q3,?_,q5⟩;rcases q4.2 with⟨hv2,h02⟩|⟨g3,cap3,cur3,hv3,hb3,hg3,hnc3,hm3,hs3,ht3⟩
  ·injection hv2 with e1 e4 e5;subst e1
   have hm0:m=0:=by omega
   subst hm0;subst h02;exact⟨⟨h.1.1,.inl ⟨rfl,rfl⟩⟩,IRow.nil _⟩
  ·injection hv3 with e1 e4 e5;subst e1 e5
   have h3:cur3.toList=cur.toList:=by
    have h5:cur3.toList.length=cap:=by simpa using hs3
    rw[←ht3,Nat.mul_one,←h5,List.take_length]
   refine⟨⟨h.1.1,.inr ⟨g3,cap,cur3,rfl,hb3,hg3,hnc,hm3,hs3,by rw[h3];exact ht⟩⟩,fun y hy=>?_⟩;simp[Value.ownBlock]at hy;subst hy;exact⟨_,_,_,hg3,by rw[h3];exact hc2⟩
section
variable {Q:Value→World→Prop}{E:Env}{K Z:Nat→Prop}{W:World}{cs:List Frame}{fn:FuncId}{t:Array Value}{k:List Item}{w0:World}
open SlotW SlotP in
theorem winsR_choose{ops:Array Oper}{i:Nat}{rest:List Nat}{o:Oper}{x y:Operand}{A C:Option Addr}{n m c d:Nat}{a b:List UInt8}(hl:LawOk E K W)(hKZ:∀ x,K x→¬ Z x)
 (ho:ops[i]? = some o) (hw:∀ t',Region.wanted o (yielded ops t')=true) (hxo:Co.OkX E x) (hyo:Co.OkX E y)
 (hr:∀ t' w,(execOp (Act.eval ⟨t',[]⟩) o).run Tryz.prog w=.ok (.enter 10 #[Act.eval ⟨t',[]⟩ x,Act.eval ⟨t',[]⟩ y]) w) (hev:∀ t' w,(execOp (Act.eval ⟨t',[]⟩) o).events Tryz.prog w #[]=#[])
 (hx:Act.eval ⟨t,[]⟩ x=.slice A n c) (hy:Act.eval ⟨t,[]⟩ y=.slice C m d) (hn:n=a.length) (hm:m=b.length) (hnc:n≤c) (hmd:m≤d) (hcm:c≤9223372036854775807) (hdm:d≤9223372036854775807) (ra:Rd w0 A (u8v a)) (rb:Rd w0 C (u8v b))
 (B:Nat→Prop) (hA:ArgOk B (.slice A n c)) (hC:ArgOk B (.slice C m d)) (hA0:0<c∨A=none) (hC0:0<d∨C=none) (hB:∀ b,B b→∃ c e fz,w0.heap[b]? = some (.cells c e fz)∧∀ u∈c,∃k n,u=.int k n)
 (hno:¬ Whole a→¬ Whole b→WinsR Tryz.prog Q E K W Z cs fn (Act.put ⟨t,[]⟩ o.dst (.tuple #[.int .i64 0,.int .i64 0,.slice none 0 0,.iface 38 (.int .i64 4)])).tmps (.inRegion ops rest::k) .run w0)
 (hyes:∀ (kk:Int) (l:List UInt8) (D:Option Addr) (q:Nat) (u:World),Sel a b kk l→Below w0.heap.size w0 u→OwnI u w0.heap.size (.slice D (longS l) q) (longS l) (u8v (bodyS l)) →
  WinsR Tryz.prog Q E K W Z cs fn (Act.put ⟨t,[]⟩ o.dst (.tuple #[.int .i64 kk,.int .i64 (seqS l),.slice D (longS l) q,.nilIface])).tmps (.inRegion ops rest::k) .run u):WinsR Tryz.prog Q E K W Z cs fn t (.inRegion ops (i::rest)::k) .run w0:=by
 refine winsR_cl (F:=10) (xs:=#[x,y]) (vs:=#[.slice A n c,.slice C m d]) (B:=B) (R:=fun vs' w v w'=>(¬Whole a∧¬ Whole b∧v=.tuple #[.int .i64 0,.int .i64 0,.slice none 0 0,.iface 38 (.int .i64 4)])∨∃(kk:Int) (l:List UInt8) (D:Option Addr) (q:Nat),Sel a b kk l∧v=.tuple #[.int .i64 kk,.int .i64 (seqS l),.slice D (longS l) q,.nilIface]∧OwnI w' w.heap.size (.slice D (longS l) q) (longS l) (u8v (bodyS l))) hl hKZ ho hw (fun z hz=>?_) (fun t' w=>by simpa using hr t' w) hev (by decide) (by simp[hx,hy]) (fun u hu=>?_) hB ?_ ?_ ?_
 ·simp only[List.mem_toArray,List.mem_cons,List.not_mem_nil,or_false]at hz;rcases hz with rfl|rfl
  ·exact hxo
  ·exact hyo
 ·simp only[List.mem_toArray,List.mem_cons,List.not_mem_nil,or_false]at hu;rcases hu with rfl|rfl
  ·exact hA
  ·exact hC
 ·exact fun vs' w v w' τ d h=>h
 ·intro f vs' w har hwr τ dd;obtain⟨u0,g0,v0⟩:=har.get (i:=0) rfl;obtain⟨u1,g1,v1⟩:=har.get (i:=1) rfl
  have hvs:vs'=#[u0,u1]:=by
   have hs:=har.size;refine Array.ext (by simpa using hs.symm) fun j h1 h2=>?_;rcases j with _|_|j
   ·rw[Array.getElem?_eq_getElem h1]at g0;exact Option.some.inj g0
   ·rw[Array.getElem?_eq_getElem h1]at g1;exact Option.some.inj g1
   ·simp at h2;omega
  obtain⟨A',rfl,hra⟩:=rd_of hwr v0 (show Rd (Co.re w0 w.tape w.drawn) A (u8v a) from ra);obtain⟨C',rfl,hrb⟩:=rd_of hwr v1 (show Rd (Co.re w0 w.tape w.drawn) C (u8v b) from rb);rw[hvs];refine(choose_any A' C' a b n m c d (Co.re w τ dd) hn hm hnc hmd hcm hdm (show Rd (Co.re w τ dd) A' (u8v a) from hra (hA0.imp id .inl)) (show Rd (Co.re w τ dd) C' (u8v b) from hrb (hC0.imp id .inl))).mono ?_;rintro e w' ⟨hb,⟨h1,h2,rfl⟩|⟨kk,l,D,q,h1,rfl,h2,-⟩⟩
  ·exact⟨.inl ⟨h1,h2,rfl⟩,hb.size,hb.block⟩
  ·exact⟨.inr ⟨kk,l,D,q,h1,rfl,h2⟩,hb.size,hb.block⟩
 ·rintro f vs' w v w' cc har hwr hs hsz hfl hrol hzl hkl hR hfin;rcases hR with⟨h1,h2,rfl⟩|⟨kk,l,D,q,h1,rfl,h2⟩
  ·refine hfin _ f w0 f.le_refl ?_ hwr hs (hno h1 h2);refine AR.tuple (AR.flat fun u hu=>?_);simp only[List.mem_toArray,List.mem_cons,List.not_mem_nil,or_false]at hu;rcases hu with rfl|rfl|rfl|rfl
   ·exact fun ok f=>.int _ _
   ·exact fun ok f=>.int _ _
   ·exact fun ok f=>.sliceN _ _
   ·exact fun ok f=>.iface (.int _ _)
  ·obtain⟨r1,r2⟩:=rowsC_own h2.1
   obtain⟨g,D0,ob,g1,g2,g3,g4,g5⟩:=row_takeI hwr h2 (fun ad hd=>⟨fun r hr=>by have:=hfl r _ hr;have:=r2 ad hd;omega,fun hro=>by have:=hrol _ hro;have:=r2 ad hd;omega⟩);refine hfin _ g _ g1 (AR.tuple (((AR.empty.push (.int _ _)).push (.int _ _)).push g2 |>.push .nilIface)) g3 ⟨hs.old,hs.low,fun z hz=>?_,hs.zed,hs.ro,hs.size,hs.still⟩ (hyes kk l D0 q _ h1 (Below.alloc (Below.refl _ _) (Nat.le_refl _) ob) g4);rcases g5 z hz with h|⟨ad,hd,rfl⟩
   ·exact hs.own z h
   ·have h9:=r2 ad hd
    exact⟨fun hk'=>by have:=hkl _ hk';omega,fun hz'=>by have:=hzl _ hz';omega⟩
open SlotW SlotP in
theorem winsR_next{ops:Array Oper}{i:Nat}{rest:List Nat}{o:Oper}{x y:Operand}{A C:Option Addr}{n m c d:Nat}{a b:List UInt8}(hl:LawOk E K W)(hKZ:∀ x,K x→¬ Z x)
 (ho:ops[i]? = some o) (hw:∀ t',Region.wanted o (yielded ops t')=true) (hxo:Co.OkX E x) (hyo:Co.OkX E y)
 (hr:∀ t' w,(execOp (Act.eval ⟨t',[]⟩) o).run Tryz.prog w=.ok (.enter 8 #[Act.eval ⟨t',[]⟩ x,Act.eval ⟨t',[]⟩ y]) w) (hev:∀ t' w,(execOp (Act.eval ⟨t',[]⟩) o).events Tryz.prog w #[]=#[])
 (hx:Act.eval ⟨t,[]⟩ x=.slice A n c) (hy:Act.eval ⟨t,[]⟩ y=.slice C m d) (hn:n=a.length) (hm:m=b.length) (hnc:n≤c) (hmd:m≤d) (hcm:c≤9223372036854775807) (hdm:d≤9223372036854775807) (ra:Rd w0 A (u8v a)) (rb:Rd w0 C (u8v b))
 (B:Nat→Prop) (hA:ArgOk B (.slice A n c)) (hC:ArgOk B (.slice C m d)) (hA0:0<c∨A=none) (hC0:0<d∨C=none) (hB:∀ b,B b→∃ c e fz,w0.heap[b]? = some (.cells c e fz)∧∀ u∈c,∃k n,u=.int k n)
 (hno:¬ Whole a→¬ Whole b→WinsR Tryz.prog Q E K W Z cs fn (Act.put ⟨t,[]⟩ o.dst (.int .i64 0)).tmps (.inRegion ops rest::k) .run w0)
 (hyes:∀ (kk:Int) (l:List UInt8),Sel a b kk l→WinsR Tryz.prog Q E K W Z cs fn (Act.put ⟨t,[]⟩ o.dst (.int .i64 (1-kk))).tmps (.inRegion ops rest::k) .run w0):WinsR Tryz.prog Q E K W Z cs fn t (.inRegion ops (i::rest)::k) .run w0:=by
 refine winsR_cl (F:=8) (xs:=#[x,y]) (vs:=#[.slice A n c,.slice C m d]) (B:=B) (R:=fun vs' w v w'=>(¬Whole a∧¬ Whole b∧v=.int .i64 0)∨∃(kk:Int) (l:List UInt8),Sel a b kk l∧v=.int .i64 (1-kk)) hl hKZ ho hw (fun z hz=>?_) (fun t' w=>by simpa using hr t' w) hev (by decide) (by simp[hx,hy]) (fun u hu=>?_) hB ?_ ?_ ?_
 ·simp only[List.mem_toArray,List.mem_cons,List.not_mem_nil,or_false]at hz;rcases hz with rfl|rfl
  ·exact hxo
  ·exact hyo
 ·simp only[List.mem_toArray,List.mem_cons,List.not_mem_nil,or_false]at hu;rcases hu with rfl|rfl
  ·exact hA
  ·exact hC
 ·exact fun vs' w v w' τ d h=>h
 ·intro f vs' w har hwr τ dd;obtain⟨u0,g0,v0⟩:=har.get (i:=0) rfl;obtain⟨u1,g1,v1⟩:=har.get (i:=1) rfl
  have hvs:vs'=#[u0,u1]:=by
   have hs:=har.size;refine Array.ext (by simpa using hs.symm) fun j h1 h2=>?_;rcases j with _|_|j
   ·rw[Array.getElem?_eq_getElem h1]at g0;exact Option.some.inj g0
   ·rw[Array.getElem?_eq_getElem h1]at g1;exact Option.some.inj g1
   ·simp at h2;omega
  obtain⟨A',rfl,hra⟩:=rd_of hwr v0 (show Rd (Co.re w0 w.tape w.drawn) A (u8v a) from ra);obtain⟨C',rfl,hrb⟩:=rd_of hwr v1 (show Rd (Co.re w0 w.tape w.drawn) C (u8v b) from rb);rw[hvs];refine(next_any A' C' a b n m c d (Co.re w τ dd) hn hm hnc hmd hcm hdm (show Rd (Co.re w τ dd) A' (u8v a) from hra (hA0.imp id .inl)) (show Rd (Co.re w τ dd) C' (u8v b) from hrb (hC0.imp id .inl))).mono ?_;rintro e w' ⟨hb,⟨h1,h2,rfl⟩|⟨kk,l,h1,rfl⟩⟩
  ·exact⟨.inl ⟨h1,h2,rfl⟩,hb.size,hb.block⟩
  ·exact⟨.inr ⟨kk,l,h1,rfl⟩,hb.size,hb.block⟩
 ·rintro f vs' w v w' cc har hwr hs hsz hfl hrol hzl hkl hR hfin;rcases hR with⟨h1,h2,rfl⟩|⟨kk,l,h1,rfl⟩
  ·exact hfin _ f w0 f.le_refl (.int _ _) hwr hs (hno h1 h2)
  ·exact hfin _ f w0 f.le_refl (.int _ _) hwr hs (hyes kk l h1)
end
end Cl
namespace Cl
open Conc Co Ph RowKit
section
variable {P:Program}{Q:Value→World→Prop}{E:Env}{K Z:Nat→Prop}{W:World}{cs:List Frame}{fn:FuncId}{t:Array Value}{k:List Item}{w0:World}
theorem jl(b:Bool){s:Nat}{th el:Code}(h:t[s]? = some (.bool b))(hk:WinsR P Q E K W Z cs fn t (.code (if b then th else el)::k) .run w0):WinsR P Q E K W Z cs fn t (.code (.cond (.tmp s) th el)::k) .run w0:=by
 intro f t' w ha hw hs;obtain⟨u,hu,hv⟩:=ha.get h;cases hv
 have he:(Co.fr fn t' (.code (.cond (.tmp s) th el)::k) .run).eval (.tmp s)=.bool b:=by
  show t'.getD s undef=_;rw[Array.getD_eq_getD_getElem?,hu];rfl
 refine wins_calm (fr':=Co.fr fn t' (.code (if b then th else el)::k) .run) (fun w=>?_) (hk f t' w ha hw hs);have he':=he;simp only[Co.fr]at he';simp[G,stepG,stepG.exec,Co.fr,he']
theorem winsR_skip(hk:WinsR P Q E K W Z cs fn t k .run w0):WinsR P Q E K W Z cs fn t (.code .skip::k) .run w0 :=
 dA (fun t' w=>by simp[G,stepG,stepG.exec,Co.fr]) hk
theorem winsR_block{id:Nat}{c:Code}(hk:WinsR P Q E K W Z cs fn t (.code c::.inBlock id::k) .run w0):WinsR P Q E K W Z cs fn t (.code (.block id c)::k) .run w0 :=
 dA (fun t' w=>by simp[G,stepG,stepG.exec,Co.fr]) hk
theorem winsR_loop{c:Code}(hk:WinsR P Q E K W Z cs fn t (.code c::.inLoop c::k) .run w0):WinsR P Q E K W Z cs fn t (.code (.loop c)::k) .run w0 :=
 dA (fun t' w=>by simp[G,stepG,stepG.exec,Co.fr]) hk
theorem winsR_again{c:Code}(hk:WinsR P Q E K W Z cs fn t (.code c::.inLoop c::k) .run w0):WinsR P Q E K W Z cs fn t (.inLoop c::k) .run w0 :=
 dA (fun t' w=>by simp[G,stepG,stepG.exec,Co.fr]) hk
theorem winsR_inBlock{id:Nat}(hk:WinsR P Q E K W Z cs fn t k .run w0):WinsR P Q E K W Z cs fn t (.inBlock id::k) .run w0 :=
 dA (fun t' w=>by simp[G,stepG,stepG.exec,Co.fr]) hk
theorem winsR_exit{id:Nat}{k2:List Item}(h:exitTo id k=some k2)(hk:WinsR P Q E K W Z cs fn t k2 .run w0):WinsR P Q E K W Z cs fn t (.code (.exit id)::k) .run w0 :=
 dA (fun t' w=>by simp[G,stepG,stepG.exec,Co.fr,h]) hk
end
end Cl
