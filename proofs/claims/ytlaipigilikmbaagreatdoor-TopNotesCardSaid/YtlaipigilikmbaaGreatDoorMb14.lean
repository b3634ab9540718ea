/- Texts of this seat,put together: OpenPlain,WkOpen,WkCx,WkAddNeg. -/
import Derived.Test.YtlaipigilikmbaaGreatDoorMb13
import Derived.Test.YtlaipigilikmbaaGreatDoorMb11
namespace Go.Proofs.YtlaipigilikmbaaGreatDoor
noncomputable section
set_option linter.unusedVariables false
set_option linter.unusedSimpArgs false
namespace OpenW
open RowKit PutW CrcW Fram Crc PackW FrameW GetW ApartW
theorem part_at{a b c:List UInt8}{i k:Nat}(hi:i=a.length)(hk:k=b.length):((a++(b++c)).drop i).take k=b:=by
 subst hi hk;rw[List.drop_left' rfl,List.take_left' rfl]
theorem leN_back{x n:Nat}(hx:x<256^n):leN (lowB x n)=x:=by rw[jJ,Nat.mod_eq_of_lt hx]
theorem page_fields(k lba seq:Nat)(sum d:List UInt8)(n:Nat)(hs:sum.length=4)(hk:k<256)(hl:lba<4294967296)(hq:seq<18446744073709551616)(hd:d.length<65536) :
 (page k lba seq sum d n).getD 0 0=165∧kindOf (page k lba seq sum d n)=(k:Int)∧lbaOf (page k lba seq sum d n)=lba∧seqOf (page k lba seq sum d n)=seq∧aJ (page k lba seq sum d n)=d.length∧dataOf (page k lba seq sum d n)=d:=by
 have eL:aJ (page k lba seq sum d n)=d.length:=by
  unfold aJ page;rw[←List.append_assoc,←List.append_assoc,part_at (by simp[af]) (by simp[af])];exact leN_back (by omega)
 refine⟨by simp[page],?_,?_,?_,eL,?_⟩
 ·unfold kindOf page;simp;omega
 ·unfold lbaOf page;rw[part_at (by simp) (by simp[af])];exact leN_back (by omega)
 ·unfold seqOf page;rw[←List.append_assoc,part_at (by simp[af]) (by simp[af])];exact leN_back (by omega)
 ·unfold dataOf;rw[eL];unfold page;rw[←List.append_assoc,←List.append_assoc,←List.append_assoc,←List.append_assoc,part_at (by simp[af,hs]) rfl]
theorem page_last(k lba seq:Nat)(sum d:List UInt8)(n:Nat)(hs:sum.length=4)(hd:d.length+21≤n):(page k lba seq sum d n).getD (n-1) 0=90:=by
 have hl:=oJ k lba seq sum d n hs hd
 have e:page k lba seq sum d n=([165,UInt8.ofNat k]++(lowB lba 4++(lowB seq 8++(lowB d.length 2++(sum++(d++List.replicate (n-21-d.length) 0))))))++[90]:=by
  unfold page;simp only[List.append_assoc]
 have e2:([165,UInt8.ofNat k]++(lowB lba 4++(lowB seq 8++(lowB d.length 2++(sum++(d++List.replicate (n-21-d.length) 0)))))).length=n-1:=by
  simp[af,hs];omega
 rw[e,List.getD_eq_getElem?_getD,List.getElem?_append_right (by omega),e2];simp
theorem fits_bounds{n:Nat}{m k lba seq:Int}(h:Fits n m k lba seq):24≤n∧n≤4096∧1≤k∧k≤3∧0≤lba∧lba≤4294967295∧0≤seq∧seq≤4611686018427387904:=by
 obtain⟨a,b,c,d,e,f,g,i⟩:=h;exact⟨by omega,by omega,c,d,e,f,g,i⟩
theorem good_pack(n:Nat)(k lba seq:Int)(d:List UInt8)(hf:Fits n d.length k lba seq)(hd:d.length+21≤n) :
 Good (pack n k.toNat lba.toNat seq.toNat d) n∧(pack n k.toNat lba.toNat seq.toNat d).getD 0 0=165∧(pack n k.toNat lba.toNat seq.toNat d).getD (n-1) 0=90 ∧
 kindOf (pack n k.toNat lba.toNat seq.toNat d)=k∧(lbaOf (pack n k.toNat lba.toNat seq.toNat d):Int)=lba∧seqI (pack n k.toNat lba.toNat seq.toNat d)=seq∧aJ (pack n k.toNat lba.toNat seq.toNat d)=d.length∧dataOf (pack n k.toNat lba.toNat seq.toNat d)=d:=by
 obtain⟨h24,hmax,hk1,hk3,hl0,hl1,hs0,hs1⟩:=fits_bounds hf;obtain⟨f0,f1,f2,f3,f4,f5⟩:=page_fields k.toNat lba.toNat seq.toNat (lowB (crc (page k.toNat lba.toNat seq.toNat [0,0,0,0] d n)).toNat 4) d n (af _ _) (by omega) (by omega) (by omega) (by omega);have fl:=page_last k.toNat lba.toNat seq.toNat (lowB (crc (page k.toNat lba.toNat seq.toNat [0,0,0,0] d n)).toNat 4) d n (af _ _) hd
 change (pack n k.toNat lba.toNat seq.toNat d).getD 0 0=165 at f0
 change kindOf (pack n k.toNat lba.toNat seq.toNat d)=_ at f1
 change lbaOf (pack n k.toNat lba.toNat seq.toNat d)=_ at f2
 change seqOf (pack n k.toNat lba.toNat seq.toNat d)=_ at f3
 change aJ (pack n k.toNat lba.toNat seq.toNat d)=_ at f4
 change dataOf (pack n k.toNat lba.toNat seq.toNat d)=_ at f5
 change (pack n k.toNat lba.toNat seq.toNat d).getD (n-1) 0=90 at fl
 have g1:kindOf (pack n k.toNat lba.toNat seq.toNat d)=k:=by rw[f1];omega
 have g2:(lbaOf (pack n k.toNat lba.toNat seq.toNat d):Int)=lba:=by rw[f2];omega
 have g3:seqI (pack n k.toNat lba.toNat seq.toNat d)=seq:=by
  unfold seqI;rw[f3,IntKind.wrap_i64];omega
 refine⟨⟨by rw[f4];exact hd,by rw[f4,g1,g2,g3];exact hf,by rw[g1,f2,g3,f5]⟩,f0,fl,g1,g2,g3,f4,f5⟩
theorem nR{l:List UInt8}{n:Nat}(h:Good l n):n=l.length∧24≤n∧n≤4096∧l.getD 0 0=165∧l.getD (n-1) 0=90:=by
 obtain⟨h1,h2,h3⟩:=h;obtain⟨h24,hmax,hk1,hk3,hl0,hl1,hs0,hs1⟩:=fits_bounds h2
 have hdl:(dataOf l).length≤aJ l:=by unfold dataOf;simp;omega
 have hpl:=pack_length n (kindOf l).toNat (lbaOf l) (seqI l).toNat (dataOf l) (by omega)
 have f0:(pack n (kindOf l).toNat (lbaOf l) (seqI l).toNat (dataOf l)).getD 0 0=165:=by simp[pack,page]
 have fl:(pack n (kindOf l).toNat (lbaOf l) (seqI l).toNat (dataOf l)).getD (n-1) 0=90:=page_last _ _ _ _ _ n (af _ _) (by omega);rw[h3]at hpl f0 fl;exact⟨hpl.symm,h24,hmax,f0,fl⟩
attribute [local irreducible] pack kindOf lbaOf seqOf seqI aJ dataOf
theorem open_any(A:Option Addr)(l:List UInt8)(n c:Nat)(w:World)(hn:n=l.length)(hnc:n≤c)(hcm:c≤9223372036854775807)(hr:Rd w A (u8v l)) :
 Calls Tryz.prog 51 #[.slice A n c] w fun e w'=>Below w.heap.size w w' ∧
  ((¬Good l n∧∃ st:Int,e=.returned (.tuple #[gI,.int .i64 st])∧((0<n∧l.count 255=n∧st=1)∨(¬(0<n∧l.count 255=n)∧st=3))) ∨
  (Good l n∧∃ B c',e=.returned (.tuple #[frV (kindOf l) (lbaOf l) (seqI l) B (aJ l) c',.int .i64 2])∧aJ l≤c'∧Rd w' B (u8v (dataOf l)))):=by
 have hnot:l.count 255=n→l.getD 0 0=165→¬ 0<n:=by
  intro h h0 hp;rw[hn]at h;have h2:=List.count_eq_length.1 h (l.getD 0 0) (by rw[show l.getD 0 0=l[0]'(by omega) from by simp[List.getD,show 0<l.length by omega]];exact List.getElem_mem _);rw[h0]at h2;exact absurd h2 (by decide)
 by_cases h0:0<n
 ·by_cases hf:l.count 255=n
  ·refine(open_erased A l n c w hn h0 (by omega) hr hf).mono fun e w' ⟨h1,h2⟩=>⟨h2,.inl ⟨fun h=>hnot hf (nR h).2.2.2.1 h0,1,h1,.inl ⟨h0,hf,rfl⟩⟩⟩
  ·by_cases hb:n<24∨4096<n∨l.getD 0 0≠165∨l.getD (n-1) 0≠90
   ·refine(open_form A l n c w hn h0 (by omega) hr hf hb).mono fun e w' ⟨h1,h2⟩=>⟨h2,.inl ⟨fun h=>?_,3,h1,.inr ⟨fun h=>hf h.2,rfl⟩⟩⟩;obtain⟨_,g1,g2,g3,g4⟩:=nR h;rcases hb with hb|hb|hb|hb
    ·omega
    ·omega
    ·exact hb g3
    ·exact hb g4
   ·have hb':24≤n∧n≤4096∧l.getD 0 0=165∧l.getD (n-1) 0=90:=by
     refine⟨?_,?_,?_,?_⟩
     ·exact Nat.le_of_not_lt fun h=>hb (.inl h)
     ·exact Nat.le_of_not_lt fun h=>hb (.inr (.inl h))
     ·exact Classical.byContradiction fun h=>hb (.inr (.inr (.inl h)))
     ·exact Classical.byContradiction fun h=>hb (.inr (.inr (.inr h)))
    obtain⟨g1,g2,g3,g4⟩:=hb';refine(open_main A l n c w hn g1 g2 hnc hcm hr g3 g4).mono fun e w' ⟨h1,h2⟩=>⟨h1,h2.imp ?_ id⟩;rintro⟨h3,h4⟩;exact⟨h3,3,h4,.inr ⟨fun h=>hf h.2,rfl⟩⟩
 ·obtain rfl:n=0:=by omega
  refine(open_none A c w).mono fun e w' ⟨h1,h2⟩=>⟨h2,.inl ⟨fun h=>?_,3,h1,.inr ⟨fun h=>by omega,rfl⟩⟩⟩;have:=(nR h).2.1;omega
end OpenW
namespace Ph
open Conc RowKit Co Cl OpenW PackW
open Classical in
def opn(l:List UInt8):Int×Int×Int×Int :=
 if OpenW.Good l l.length then(kindOf l,(lbaOf l:Int),seqI l,2) else if 0<l.length∧l.count 255=l.length then(0,0,0,1) else(0,0,0,3)
inductive PgAt (w:World):Value→List UInt8→Prop
 |nil:PgAt w (.slice none 0 0) []
 |zero (a:Addr):PgAt w (.slice (some a) 0 0) []
 |row {b off n c:Nat} {l:List UInt8} {cs:Array Value} {e:TypeId} {fz:Nat×Nat} (hn:n=l.length) (h0:0<c) (hc:n≤c) (hm:c≤9223372036854775807) (hb:w.heap[b]? = some (.cells cs e fz)) (hl:∀ i x,l[i]? = some x→cs[off+i]? = some (.int .u8 x.toNat)):PgAt w (.slice (some ⟨b,off,none⟩) n c) l
def blkOf:Value→Bl
 |.slice (some a) _ c=>fun x=>x=a.block∧0<c
 |_=>noB
def opnV(l:List UInt8)(sl:Value):Value:=.tuple #[.agg #[.int .i64 (opn l).1,.int .i64 (opn l).2.1,.int .i64 (opn l).2.2.1,sl],.int .i64 (opn l).2.2.2]
def isSlice:Value→Prop
 |.slice _ _ _=>True
 |_=>False
theorem rd_row{w:World}{b off:Nat}{l:List UInt8}(h:∀ i x,l[i]? = some x→w.cell? ⟨b,off+i,none⟩=some (.int .u8 x.toNat)):Rd w (some ⟨b,off,none⟩) (u8v l):=by
 refine .inr ⟨b,off,rfl,fun i u hu=>?_⟩;unfold u8v at hu;rw[List.getElem?_map]at hu;obtain⟨x,hx,rfl⟩:=Option.map_eq_some_iff.1 hu;exact h i x hx
theorem og(A:Option Addr)(l:List UInt8)(n c:Nat)(w:World)(hn:n=l.length)(hnc:n≤c)(hcm:c≤9223372036854775807)(hr:Rd w A (u8v l)) :
 Calls Tryz.prog 51 #[.slice A n c] w fun e w'=>∃ v,e=.returned v∧∃ sl,isSlice sl∧v=opnV l sl:=by
 refine(open_any A l n c w hn hnc hcm hr).mono fun e w' h=>?_;subst hn;rcases h with⟨-,⟨hg,st,rfl,hst⟩|⟨hg,B,c',rfl,-⟩⟩
 ·refine⟨_,rfl,.slice none 0 0,trivial,?_⟩;unfold opnV opn;rw[if_neg hg];rcases hst with⟨h1,h2,rfl⟩|⟨h1,rfl⟩
  ·rw[if_pos ⟨h1,h2⟩];rfl
  ·rw[if_neg h1];rfl
 ·refine⟨_,rfl,.slice B (aJ l) c',trivial,?_⟩;unfold opnV opn;rw[if_pos hg];rfl
theorem opnV_rel{ok:FuncId→Bool}{f:Fm}{l:List UInt8}{sl v':Value}(hs:isSlice sl)(h:VR ok f (opnV l sl) v'):∃ A n c,v'=opnV l (.slice A n c):=by
 have hsz:∀ {x:Array Value} {n:Nat},x.size=n→∃ y:List Value,x=y.toArray∧y.length=n:=fun {x n} e=>⟨x.toList,by simp,by simpa using e⟩;unfold opnV at h
 cases h with
 |@tuple _ x' hx ex =>
  obtain⟨y,rfl,hy⟩:=hsz hx.symm
  match y,hy with
  |[a,b],_ =>
   have h0:=ex 0 _ _ rfl rfl;have h1:=ex 1 _ _ rfl rfl;cases h1
   cases h0 with
   |@agg _ z' hz ez =>
    obtain⟨u,rfl,hu⟩:=hsz hz.symm
    match u,hu with
    |[p,q,r,s],_ =>
     have k0:=ez 0 _ _ rfl rfl;have k1:=ez 1 _ _ rfl rfl;have k2:=ez 2 _ _ rfl rfl;have k3:=ez 3 _ _ rfl rfl;cases k0;cases k1;cases k2
     cases sl with
     |slice A n c =>
      cases k3 with
      |sliceN n c=>exact⟨none,n,c,rfl⟩
      |slice h=>exact⟨_,_,_,rfl⟩
      |slice0 a a'=>exact⟨_,_,_,rfl⟩
     |_=>exact hs.elim
def pgW(G:Nat)(o:Obj)(τ:Tp)(d:Nat):World:={(default:World) with heap:=Array.replicate G (.cells #[] 0 (0,0))++#[o],tape:=τ,drawn:=d}
theorem pgW_at(G:Nat)(o:Obj)(τ:Tp)(d:Nat):(pgW G o τ d).heap[G]? = some o:=by
 unfold pgW;rw[Array.getElem?_append_right (by simp)];simp
theorem pgW_gl(G:Nat)(o:Obj)(τ:Tp)(d:Nat){r:Nat}(h:r<G):(pgW G o τ d).heap[r]? = some (.cells #[] 0 (0,0)):=by
 unfold pgW;rw[Array.getElem?_append_left (by simpa using h),Array.getElem?_replicate,if_pos h]
theorem pgW_size(G:Nat)(o:Obj)(τ:Tp)(d:Nat):(pgW G o τ d).heap.size=G+1:=by simp[pgW]
section
variable {X:Cx}{main:Bool}{Stop:Bl→Goroutine→World→Prop}{w:World}{own0 st:Bl}
theorem Gl.open(hXP:X.P=Tryz.prog){pv:Value}{l:List UInt8}(hp:PgAt w pv l)(hro:∀ b,blkOf pv b→X.Y.ro b)(h0:∀ b,own0 b→¬ X.Y.ro b∧b<w.heap.size)(hst:∀ b,st b→X.Y.ro b∧b<w.heap.size){fc:Frame}{cs:List Frame}
 (hk:∀ (own1:Bl) A n c w₁,Co.Aside X.Y.ro own0 st own1 w₁.heap.size→Stays own0 st w w₁→Gl X main dT Stop (fun x=>own0 x∨own1 x) (G (fc.finish (opnV l (.slice A n c))) cs) w₁) :
 Gl X main dT Stop own0 (G (Frame.enter Tryz.prog 51 #[pv] .normal) (fc::cs)) w:=by
 have key:∀ (lv:Value) (f:Fm) (w0:World) (ro:Bl),VR (EN ro).ok f lv pv→(∀x,ro x→X.Y.ro x)→WR (EN ro) f (Co.re w0 w.tape w.drawn) w→(∀x,¬ownOf (EN ro) f x)→(∀τ d,Calls Tryz.prog 51 #[lv] (Co.re w0 τ d) fun e w'=>∃ v,e=.returned v∧∃ sl,isSlice sl∧v=opnV l sl) →
  Gl X main dT Stop own0 (G (Frame.enter Tryz.prog 51 #[pv] .normal) (fc::cs)) w:=by
  intro lv f w0 ro hv hr hw hno hc
  have e0:own0=fun x=>own0 x∨ownOf (EN ro) f x:=by
   funext x
   exact propext ⟨.inl,fun h=>h.elim id fun h=>absurd h (hno x)⟩
  rw[e0,←hXP];have hS:Sound X.P (EN ro):=hXP▸bV ro;refine Gl.call (st:=st) hS (R:=fun v _=>∃ sl,isSlice sl∧v=opnV l sl) (f:=f) (args:=#[lv]) (by kernel_rfl) (AR.one hv) hw (hXP▸hc) hr ⟨fun x hx=>absurd hx (hno x),fun x hx=>⟨hno x,(h0 x hx).2⟩,fun x hx=>⟨(hst x hx).1,fun h=>(h0 x h).1 (hst x hx).1,hno x,(hst x hx).2⟩⟩ ?_;rintro g v v' u w₁ hvv ⟨sl,hs,rfl⟩ hwr has hsy;obtain⟨A,n,c,rfl⟩:=opnV_rel hs hvv;exact hk _ A n c w₁ has hsy
 have empty:∀ (lv:Value),VR (EN noB).ok (fun _=>none) lv pv→(∀τ d,Calls Tryz.prog 51 #[lv] (Co.re (pgW Tryz.prog.globals.size (.cells #[] 0 (0,0)) z0 0) τ d) fun e w'=>∃ v,e=.returned v∧∃ sl,isSlice sl∧v=opnV l sl) →
  Gl X main dT Stop own0 (G (Frame.enter Tryz.prog 51 #[pv] .normal) (fc::cs)) w:=fun lv hv hc =>
  key lv (fun _=>none) (pgW Tryz.prog.globals.size (.cells #[] 0 (0,0)) z0 0) noB hv (fun x h=>h.elim) ⟨rfl,rfl,fun r r' h=>(by cases h),fun r s x h=>(by cases h),fun r r' o h=>(by cases h),fun x _ h=>h.elim,fun r r' h=>(by cases h),fun r hr=>⟨0,pgW_gl _ _ _ _ hr⟩,by show _≤(pgW _ _ _ _).heap.size;rw[pgW_size];exact Nat.le_succ _⟩ (fun x h=>by obtain⟨⟨r,e⟩,_⟩:=h;cases e) hc
 cases hp with
 |nil=>exact empty (.slice none 0 0) (.sliceN 0 0) fun τ d=>og none [] 0 0 _ rfl (Nat.le_refl _) (by decide) (Rd.nil _ _)
 |zero a=>exact empty (.slice (some a) 0 0) (.slice0 a a) fun τ d=>og (some a) [] 0 0 _ rfl (Nat.le_refl _) (by decide) (Rd.nil _ _)
 |@row b off n c l cs e fz hn hc0 hc hm hb hl =>
  obtain⟨f,hf⟩:∃ f:Fm,f=fun r=>if r=Tryz.prog.globals.size then some b else none:=⟨_,rfl⟩
  have hf1:f Tryz.prog.globals.size=some b:=by rw[hf];exact if_pos rfl
  have hfe:∀ {r x},f r=some x→r=Tryz.prog.globals.size∧x=b:=fun {r x} h=>by
   rw[hf]at h;simp only at h;split at h
   ·cases h;exact⟨by assumption,rfl⟩
   ·cases h
  obtain⟨cr,hcr,hcell⟩:=row_ex (ok:=(EN noB).ok) (f:=f) cs (fun i=>if off≤i then(l[i-off]?).map fun x=>.int .u8 x.toNat else none) (fun i u u' h1 h2=>by
   split at h1
   ·rename_i hle;obtain⟨x,hx,rfl⟩:=Option.map_eq_some_iff.1 h1;have:=hl _ _ hx;rw[show off+(i-off)=i by omega,h2]at this;cases this;exact .int _ _
   ·cases h1)
  have hblk:0<c→X.Y.ro b:=fun h=>hro b ⟨rfl,h⟩
  ·obtain⟨w0,hw0⟩:∃ w0,w0=pgW Tryz.prog.globals.size (.cells cr e (0,cr.size+fz.2)) z0 0:=⟨_,rfl⟩
   have hat:w0.heap[Tryz.prog.globals.size]? = some (.cells cr e (0,cr.size+fz.2)):=by rw[hw0];exact pgW_at _ _ _ _
   have hbl:=(Array.getElem?_eq_some_iff.1 hb).1;refine key (.slice (some ⟨Tryz.prog.globals.size,off,none⟩) n c) f w0 (fun x=>x=b) (.slice hf1) (fun x hx=>by subst hx;exact hblk hc0) ⟨rfl,rfl,fun r r' h=>?_,fun r s x h1 h2=>?_,fun r r' o h1 h2 h3=>?_,fun x hx h=>by subst h;omega,fun r r' h=>?_,fun r hr=>⟨0,by rw[hw0];exact pgW_gl _ _ _ _ hr⟩,?_⟩ (fun x h=>?_) fun τ d=>?_
   ·obtain⟨rfl,rfl⟩:=hfe h;exact⟨_,_,hat,hb,.cells hcr fun o h1 h2=>⟨Nat.zero_le _,by omega⟩⟩
   ·rw[(hfe h1).1,(hfe h2).1]
   ·obtain⟨rfl,rfl⟩:=hfe h1
    have:o=.cells cr e (0,cr.size+fz.2):=by
     have h4:w0.heap[Tryz.prog.globals.size]? = some o:=h3;rw[hat]at h4;cases h4;rfl
    subst this;exact⟨_,_,_,rfl,rfl,Nat.le_add_right _ _⟩
   ·obtain⟨rfl,-⟩:=hfe h;exact Nat.le_refl _
   ·show _≤w0.heap.size;rw[hw0,pgW_size];exact Nat.le_succ _
   ·obtain⟨⟨r,h1⟩,h2⟩:=h;exact h2 (hfe h1).2
   ·refine og _ l n c _ hn hc hm (rd_row fun i x hx=>?_);have h1:=hl i x hx;have h2:=(Array.getElem?_eq_some_iff.1 h1).1
    have h3:=hcell (off+i) (.int .u8 x.toNat) (by
     rw[if_pos (by omega),show off+i-off=i by omega,hx]
     rfl) h2
    show World.cell? _ _=_;unfold World.cell?;simp only[dw,hat];exact h3
end
end Ph
namespace Ph
open Conc Co Cl
abbrev adr(b:Nat):Addr:=⟨b,0,none⟩
abbrev pw(b:Nat):Value:=.pointer (some (adr b))
structure Cfg where
 W0:World
 n:Nat
 L:Nat
 cp:Nat
 Ap:Option Addr
 pv:Nat→Value
 pg:Nat→List UInt8
 bp:Nat
 bc:Nat
 bo:Nat
 bn:Nat
 bw:Nat
 ro:Bl
 Z:Bl
 n0:Nat
 cl:Nat
structure RoOk(C:Cfg)(w:World):Prop where
 at_:∀ b,C.ro b→w.heap[b]? = C.W0.heap[b]?
 lt:∀ b,C.ro b→b<w.heap.size
def seenV(k:Nat)(l:List UInt8)(A:Option Addr)(m c:Nat):Value:=.agg #[.int .i64 k,.int .i64 (opn l).1,.int .i64 (opn l).2.1,.int .i64 (opn l).2.2.1,.slice A m c,.int .i64 (opn l).2.2.2]
def nxObj(c:Int):Obj:=.cells #[.int .i64 c] 113 (0,0)
def wgObj(st sm:Int):Obj:=.cells #[.int .u64 st,.int .u32 sm] 118 (0,0)
end Ph
namespace Ph
open Conc Co Cl
section
variable (bw:Nat)(c:Frame)(cs:List Frame)
def an:Goroutine:=G (Frame.enter Tryz.prog 47 #[.pointer (some (adr bw)),.int .i64 (-1)] .normal) (c::cs)
def an0:Goroutine:=it Tryz.prog 11 (an bw c cs)
theorem an0_calm:Calms Tryz.prog false 11 (an bw c cs):=by
 iterate 11 refine⟨by kernel_rfl,fun _=>by kernel_rfl,?_⟩
 trivial
theorem an0_at:AtO (an0 bw c cs) (oOf (an0 bw c cs)) :=
 ⟨by unfold AtOp;kernel_rfl,by kernel_rfl,by kernel_rfl,by rw[show(an0 bw c cs).frame.kind=.normal by kernel_rfl];simp⟩
theorem an0_op:(oOf (an0 bw c cs)).op=.convert 139 127 (.tmp 11):=by kernel_rfl
theorem an0_x:(aOf (an0 bw c cs)).eval (.tmp 11)=.pointer (some (adr bw)):=by kernel_rfl
def an1:Goroutine:=fin (an0 bw c cs) (.pointer (some (adr bw)))
theorem an1_at:AtCall (an1 bw c cs) 66 #[.tmp 12] :=
 ⟨by unfold AtOp;kernel_rfl,⟨oOf (an1 bw c cs),by kernel_rfl,by kernel_rfl,#[127],by kernel_rfl⟩,by rw[show(an1 bw c cs).frame.kind=.normal by kernel_rfl];simp⟩
theorem an1_x:((#[.tmp 12]:Array Operand).map (aOf (an1 bw c cs)).eval)[0]? = some (.pointer (some (adr bw))):=by kernel_rfl
def an2:Goroutine:=fin (an1 bw c cs) (.tuple #[])
theorem an2_calm:Calms Tryz.prog false 3 (an2 bw c cs):=by
 iterate 3 refine⟨by kernel_rfl,fun _=>by kernel_rfl,?_⟩
 trivial
def an3:Goroutine:=it Tryz.prog 3 (an2 bw c cs)
theorem an3_at:AtCall (an3 bw c cs) 67 #[] :=
 ⟨by unfold AtOp;kernel_rfl,⟨oOf (an3 bw c cs),by kernel_rfl,by kernel_rfl,#[],by kernel_rfl⟩,by rw[show(an3 bw c cs).frame.kind=.normal by kernel_rfl];simp⟩
def an4:Goroutine:=fin (an3 bw c cs) (.tuple #[])
theorem an4_calm:Calms Tryz.prog false 34 (an4 bw c cs):=by
 iterate 34 refine⟨by kernel_rfl,fun _=>by kernel_rfl,?_⟩
 trivial
def an5:Goroutine:=it Tryz.prog 34 (an4 bw c cs)
theorem an5_at:AtCall (an5 bw c cs) 97 #[.tmp 7,.tmp 8] :=
 ⟨by unfold AtOp;kernel_rfl,⟨oOf (an5 bw c cs),by kernel_rfl,by kernel_rfl,#[176,69],by kernel_rfl⟩,by rw[show(an5 bw c cs).frame.kind=.normal by kernel_rfl];simp⟩
theorem an5_x:(aOf (an5 bw c cs)).eval (.tmp 7)=.pointer (some (adr bw))∧(aOf (an5 bw c cs)).eval (.tmp 8)=.int .u64 18446744069414584320:=⟨by kernel_rfl,by kernel_rfl⟩
def an6(S:Int):Goroutine:=fin (an5 bw c cs) (.int .u64 S)
end
end Ph
