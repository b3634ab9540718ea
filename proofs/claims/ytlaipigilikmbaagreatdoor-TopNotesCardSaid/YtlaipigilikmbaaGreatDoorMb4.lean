/- Texts of this seat,put together: CoO7,CoOp,CoStep. -/
import Derived.Test.YtlaipigilikmbaaGreatDoorMb3
import Derived.Conc.Own
namespace Go.Proofs.YtlaipigilikmbaaGreatDoor
noncomputable section
set_option linter.unusedVariables false
set_option linter.unusedSimpArgs false
namespace Co
variable {P:Program}{E:Env}{f:Fm}
def StepR{σ:Type}(R:Fm→σ→σ→Prop)(g:Fm):ForInStep σ→ForInStep σ→Prop
 |.done a,.done b=>R g a b
 |.yield a,.yield b=>R g a b
 |_,_=>False
theorem SRel.forIn{α σ:Type}{R:Fm→σ→σ→Prop}(hm:∀ g h a b,Fm.le g h→R g a b→R h a b){body body':α→σ→Sem (ForInStep σ)}:∀ (l:List α) {f:Fm} (b b':σ),R f b b'→(∀x∈l,∀g,f.le g→∀ b b',R g b b'→SRel P E g (body x b) (body' x b') (StepR R))→SRel P E f (forIn l b body) (forIn l b' body') R
 |[],f,b,b',hb,h=>SRel.pure fun g hg=>hm _ _ _ _ hg hb
 |x::l,f,b,b',hb,h=>by
  rw[List.forIn_cons,List.forIn_cons];refine(h x (by simp) f f.le_refl b b' hb).bind fun g hg s s' hs=>?_
  cases s with
  |done a =>
   cases s' with
   |done c=>exact SRel.pure fun g1 hg1=>hm _ _ _ _ hg1 hs
   |yield c=>exact hs.elim
  |yield a =>
   cases s' with
   |done c=>exact hs.elim
   |yield c=>exact SRel.forIn hm l a c hs fun y hy g1 hg1=>h y (by simp[hy]) g1 (Fm.le_trans hg hg1)
theorem op_rangeS{t:TypeId}(ht:P.underlying t=some .string){x x':Value}(hx:VR E.ok f x x'):SRel P E f (Instr.range t x) (Instr.range t x') (VV E):=by
 unfold Instr.range;refine(SRel.under ht).bind fun g hg d d' e=>?_;obtain⟨rfl,rfl⟩:=e
 cases hx with
 |string s =>
  dsimp only
  refine(SRel.pure (R:=fun g o o'=>OR E.ok g o o') fun g1 hg1=>.stringIter s 0).bind fun g1 hg1 o o' ho=>?_;exact(SRel.new ho).bind fun g2 hg2 r r' hr=>SRel.pure fun g3 hg3=>VR.ptr (hg3 _ _ hr)
 |_=>exact SRel.never (Never.bind1 Never.halt)
theorem op_nextS{t:TypeId}{x x':Value}(hx:VR E.ok f x x'):SRel P E f (Instr.next x true t) (Instr.next x' true t) (VV E):=by
 unfold Instr.next
 cases hx with
 |@ptr b b' o s h =>
  cases o with
  |succ o=>exact SRel.stuck
  |zero =>
   dsimp only
   refine(SRel.getObj h).bind fun g hg o o' ho=>?_
   cases ho with
   |stringIter s p =>
    dsimp only
    refine SRel.ite (fun _=>?_) fun _=>SRel.pure fun _ _=>.tuple rfl fun i u u' h1 h2=>?_
    ·refine(SRel.setObj (hg _ _ h) (.stringIter _ _) ⟨rfl,rfl⟩).bind fun g1 hg1 _ _ _=>SRel.pure fun _ _=>.tuple rfl fun i u u' h1 h2=>?_;rw[h1]at h2;cases h2;have:=Array.mem_of_getElem? h1;simp only[List.mem_toArray,List.mem_cons,List.not_mem_nil,or_false]at this;rcases this with rfl|rfl|rfl
     ·exact .bool _
     ·exact .int _ _
     ·exact .int _ _
    ·rw[h1]at h2;cases h2;have:=Array.mem_of_getElem? h1;simp only[List.mem_toArray,List.mem_cons,List.not_mem_nil,or_false]at this;subst this;exact .bool _
   |_=>exact SRel.stuck
 |_=>exact SRel.stuck
theorem op_indexA{t:TypeId}{n:Nat}{e:TypeId}(ht:P.underlying t=some (.array n e)){x x' i i':Value}(hx:VR E.ok f x x')(hi:VR E.ok f i i'):SRel P E f (Instr.index t x i) (Instr.index t x' i') (VV E):=by
 unfold Instr.index;refine(SRel.asIntOf hi).bind fun g hg k k' e=>?_;subst e;obtain⟨k,i⟩:=k;refine(SRel.under ht).bind fun g1 hg1 d d' e=>?_;obtain⟨rfl,rfl⟩:=e
 cases hx with
 |agg hs he =>
  dsimp only
  refine SRel.ite (fun _=>?_) fun _=>SRel.never (bg _ _ _ _);refine(SRel.det (aU _)).bind fun g2 hg2 s s' e=>?_;subst e;exact SRel.part (AR.mono (Fm.le_trans hg (Fm.le_trans hg1 hg2)) ⟨hs,he⟩) _
 |_=>exact SRel.stuck
theorem op_indexStr{t:TypeId}(ht:P.underlying t=some .string){x x' i i':Value}(hx:VR E.ok f x x')(hi:VR E.ok f i i'):SRel P E f (Instr.index t x i) (Instr.index t x' i') (VV E):=by
 unfold Instr.index;refine(SRel.asIntOf hi).bind fun g hg k k' e=>?_;subst e;obtain⟨k,i⟩:=k;refine(SRel.under ht).bind fun g1 hg1 d d' e=>?_;obtain⟨rfl,rfl⟩:=e
 cases hx with
 |string s =>
  dsimp only
  split
  ·exact SRel.pure fun _ _=>.int _ _
  ·exact SRel.never (bg _ _ _ _)
 |_=>exact SRel.stuck
theorem SRel.sureAddr{v v':Value}(h:VR E.ok f v v'):SRel P E f (Instr.sureAddr v) (Instr.sureAddr v') (fun g a a'=>DR g a a'):=by
 cases h with
 |@ptr b b' o s h=>exact SRel.pure fun g hg=>⟨hg _ _ h,rfl,rfl⟩
 |_=>exact SRel.stuck
theorem op_indexAtA{t:TypeId}{n:Nat}{e:TypeId}(ht:P.underlying t=some (.array n e)){x x' i i':Value}(hx:VR E.ok f x x')(hi:VR E.ok f i i'):SRel P E f (Instr.indexAt t x i) (Instr.indexAt t x' i') (VV E):=by
 unfold Instr.indexAt;refine(SRel.asIntOf hi).bind fun g hg k k' e=>?_;subst e;obtain⟨k,i⟩:=k;refine(SRel.under ht).bind fun g1 hg1 d d' e=>?_;obtain⟨rfl,rfl⟩:=e
 dsimp only
 refine(SRel.sureAddr (hx.mono (Fm.le_trans hg hg1))).bind fun g2 hg2 a a' ha=>?_;refine(SRel.pure (R:=fun g y y'=>y=(some a,n,e)∧y'=(some a',n,e)) fun _ _=>⟨rfl,rfl⟩).bind fun g3 hg3 y y' hy=>?_;obtain⟨rfl,rfl⟩:=hy
 dsimp only
 refine(SRel.under ht).bind fun g4 hg4 d d' e=>?_;obtain⟨rfl,rfl⟩:=e
 dsimp only
 refine SRel.ite (fun _=>?_) fun _=>?_
 ·refine(SRel.det (aU _)).bind fun g5 hg5 s s' e=>?_;subst e;exact SRel.pure fun g6 hg6=>((ha.mono (Fm.le_trans hg3 (Fm.le_trans hg4 (Fm.le_trans hg5 hg6)))).add _).ptr
 ·exact SRel.ite (fun _=>SRel.unsupported) fun _=>SRel.never (bg _ _ _ _)
structure PlainS(P:Program)(t:TypeId)(fs:Array Field):Prop where
 und:P.underlying t=some (.struct fs)
 plain:∀ fd∈fs,∃d,P.underlying fd.type=some d∧Plain d∧∀ i,P.info? fd.type=some i→∀ u,i.desc≠.named "sync.copyChecker" u
 guard:P.eqGuardType P.depth t=false
theorem op_equalS(hE:E.G=P.globals.size){t:TypeId}{fs:Array Field}(hS:PlainS P t fs){x x' y y':Value}(hx:VR E.ok f x x')(hy:VR E.ok f y y'):SRel P E f (Op.equal t x y) (Op.equal t x' y') (fun _ a b=>a=b):=by
 have hm:Op.maxDepth=9998+1+1:=rfl;unfold Op.equal;rw[hm];unfold Op.equalIn;refine(SRel.under hS.und).bind fun g hg q q' e=>?_;obtain⟨rfl,rfl⟩:=e
 cases hx with
 |agg sx ex =>
  cases hy with
  |agg sy ey =>
   dsimp only
   refine(SRel.program (R:=fun _ a b=>a=P∧b=P) (fun _ _=>⟨rfl,rfl⟩)).bind fun g1 hg1 p p' e=>?_;obtain⟨rfl,rfl⟩:=e;refine SRel.ite (fun _=>SRel.never (Never.bind1 Never.halt)) fun _=>?_;have ax:=AR.mono (Fm.le_trans hg hg1) (AR.mk sx ex);have ay:=AR.mono (Fm.le_trans hg hg1) (AR.mk sy ey);refine SRel.bind (R:=fun _ a b=>a=b) ?_ fun g2 hg2 r r' e=>?_
   ·rw[←Array.forIn_toList,←Array.forIn_toList];refine SRel.forIn (R:=fun _ a b=>a=b) (fun _ _ _ _ _ h=>h) _ _ _ rfl fun fd hfd g2 hg2 b b' hb=>?_;subst hb;obtain⟨d,h1,h2,h3⟩:=hS.plain fd (by simpa using hfd);refine SRel.ite (fun _=>?_) fun _=>SRel.pure fun _ _=>rfl;refine(SRel.part (ax.mono hg2) _).bind fun g3 hg3 u u' hu=>?_;refine(SRel.part (ay.mono (Fm.le_trans hg2 hg3)) _).bind fun g4 hg4 v v' hv=>?_;refine(op_equalIn 9998 hE h1 h2 h3 (hu.mono hg4) hv).bind fun g5 hg5 c c' e=>?_;subst e;exact SRel.ite (fun _=>SRel.pure fun _ _=>rfl) fun _=>SRel.pure fun _ _=>rfl
   ·subst e;split
    ·exact SRel.pure fun _ _=>rfl
    ·exact SRel.pure fun _ _=>rfl
  |_=>exact SRel.stuck
 |_=>cases hy<;>exact SRel.stuck
theorem mD{t:TypeId}{fs:Array Field}(hS:PlainS P t fs){x y:Value}(h:¬ ∃a b,x=.agg a∧y=.agg b):Never P (Op.equal t x y):=by
 have hm:Op.maxDepth=9999+1:=rfl;unfold Op.equal;rw[hm];unfold Op.equalIn;intro w a w2 hr;rw[Sem.run_bind,show(underlying t).run P w=.ok (.struct fs) w by rw[←Sem.runT_fst P _ w #[],(Qt.under hS.und)],Result.andThen_ok]at hr
 split at hr<;>first
  |contradiction
  |(exfalso;exact h ⟨_,_,rfl,rfl⟩)
  |(cases hr;done)
theorem binS_eql{t:TypeId}{x y:Value}(h1:∀ k a k' b,¬(x=.int k a∧y=.int k' b))(h2:∀ a b,¬(x=.string a∧y=.string b))(h3:∀ k a k' b,¬(x=.float k a∧y=.float k' b))(h4:∀ k a b k' a' b',¬(x=.complex k a b∧y=.complex k' a' b')) :
 binOp .eql t x y=(do Pure.pure (.bool (←Op.equal t x y)))∧binOp .neq t x y=(do Pure.pure (.bool (!(←Op.equal t x y)))):=by
 constructor
 all_goals
  unfold binOp
  split<;>first
   |rfl
   |(rename_i a b c d e f _ _;exact absurd ⟨rfl,rfl⟩ (h4 _ _ _ _ _ _))
   |exact absurd ⟨rfl,rfl⟩ (h1 _ _ _ _)
   |exact absurd ⟨rfl,rfl⟩ (h2 _ _)
   |exact absurd ⟨rfl,rfl⟩ (h3 _ _ _ _)
   |(simp_all;done)
theorem dU{t:TypeId}(op:BinOp)(ox oy:Operand){x y:Value}(h1:¬ (x=.nilIface∧y=.nilIface))(h2:P.eqGuardType P.depth t=false):Qt P (eqGuard op t ox oy x y) ():=by
 unfold eqGuard;refine Qt.ite (fun _=>.pure _) fun _=>?_;split
 ·exact absurd ⟨rfl,rfl⟩ h1
 ·refine Qt.program.bind (Qt.program.bind ?_);rw[h2];exact .pure _
 ·exact .pure _
theorem op_binS(hE:E.G=P.globals.size){op:BinOp}(hop:op=.eql∨op=.neq){t:TypeId}{fs:Array Field}(hS:PlainS P t fs)(ox oy:Operand){x x' y y':Value}(hx:VR E.ok f x x')(hy:VR E.ok f y y') :
 SRel P E f (do eqGuard op t ox oy x y;binOp op t x y) (do eqGuard op t ox oy x' y';binOp op t x' y') (VV E):=by
 by_cases hi:∃ k a k' b,x=.int k a∧y=.int k' b
 ·obtain⟨k,a,k',b,rfl,rfl⟩:=hi;cases hx;cases hy;refine(SRel.qt (dU op ox oy (by intro h;cases h.1) hS.guard) (dU op ox oy (by intro h;cases h.1) hS.guard)).bind fun g hg _ _ _=>?_;rcases hop with rfl|rfl
  ·exact SRel.ite (fun _=>SRel.stuck) fun _=>nH _ _ _
  ·exact SRel.ite (fun _=>SRel.stuck) fun _=>nH _ _ _
 by_cases hs:∃ a b,x=.string a∧y=.string b
 ·obtain⟨a,b,rfl,rfl⟩:=hs;cases hx;cases hy;refine(SRel.qt (dU op ox oy (by intro h;cases h.1) hS.guard) (dU op ox oy (by intro h;cases h.1) hS.guard)).bind fun g hg _ _ _=>?_;rcases hop with rfl|rfl
  ·exact nT .eql _ _
  ·exact nT .neq _ _
 have hf:∀ k a k' b,¬(x=.float k a∧y=.float k' b):=fun k a k' b h=>by obtain⟨rfl,rfl⟩:=h;cases hx
 have hc:∀ k a b k' a' b',¬(x=.complex k a b∧y=.complex k' a' b'):=fun k a b k' a' b' h=>by obtain⟨rfl,rfl⟩:=h;cases hx
 obtain⟨e1,e2⟩:=binS_eql (t:=t) (x:=x) (y:=y) (fun k a k' b h=>hi ⟨k,a,k',b,h⟩) (fun a b h=>hs ⟨a,b,h⟩) hf hc;by_cases hA:∃ a b,x=.agg a∧y=.agg b
 ·obtain⟨a,b,rfl,rfl⟩:=hA;have hq:=op_equalS hE hS hx hy;cases hx;cases hy;rename_i a' sx ex b' sy ey;refine(SRel.qt (dU op ox oy (by intro h;cases h.1) hS.guard) (dU op ox oy (by intro h;cases h.1) hS.guard)).bind fun g hg _ _ _=>?_;obtain⟨e3,e4⟩:=binS_eql (t:=t) (x:=.agg a') (y:=.agg b') (fun _ _ _ _ h=>by cases h.1) (fun _ _ h=>by cases h.1) (fun _ _ _ _ h=>by cases h.1) (fun _ _ _ _ _ _ h=>by cases h.1);rcases hop with rfl|rfl
  ·rw[e1,e3]
   exact(hq.up hg).bind fun g hg a b e=>by subst e;exact dS _
  ·rw[e2,e4]
   exact(hq.up hg).bind fun g hg a b e=>by subst e;exact dS _
 ·refine SRel.never (Never.bind fun _=>?_);rcases hop with rfl|rfl
  ·rw[e1];exact Never.bind1 (mD hS hA)
  ·rw[e2];exact Never.bind1 (mD hS hA)
theorem op_makeMap{t:TypeId}:SRel P E f (Instr.makeMap t none) (Instr.makeMap t none) (VV E):=by
 unfold Instr.makeMap
 dsimp only
 exact(SRel.new (.map rfl fun i x x' h1 h2=>by simp at h1)).bind fun g hg r r' hr=>SRel.pure fun g1 hg1=>VR.map (hg1 _ _ hr)
abbrev EntR(ok:FuncId→Bool)(f:Fm)(x x':MapEntry):Prop:=VR ok f x.key x'.key∧x.born=x'.born∧VR ok f x.val x'.val
theorem EntR.mono{ok:FuncId→Bool}{f g:Fm}(h:f.le g){x x':MapEntry}(r:EntR ok f x x'):EntR ok g x x':=⟨r.1.mono h,r.2.1,r.2.2.mono h⟩
abbrev EntsR(ok:FuncId→Bool)(f:Fm)(l l':List MapEntry):Prop:=l.length=l'.length∧∀ (i:Nat) x x',l[i]? = some x→l'[i]? = some x'→EntR ok f x x'
theorem EntsR.tail{ok:FuncId→Bool}{f:Fm}{e e':MapEntry}{l l':List MapEntry}(h:EntsR ok f (e::l) (e'::l')):EntsR ok f l l':=⟨by simpa using h.1,fun i x x' a b=>h.2 (i+1) x x' (by simpa using a) (by simpa using b)⟩
theorem EntsR.mono{ok:FuncId→Bool}{f g:Fm}(h:f.le g){l l':List MapEntry}(r:EntsR ok f l l'):EntsR ok g l l':=⟨r.1,fun i x x' a b=>(r.2 i x x' a b).mono h⟩
theorem oK{k:IntKind}{x y:Value}{b:Bool}(h:Instr.sameNow (.int k) x y=some b):∃ kk n m,x=.int kk n∧y=.int kk m∧b=(n==m):=by
 unfold Instr.sameNow at h;split at h
 ·split at h
  ·rename_i e;subst e;cases h;exact⟨_,_,_,rfl,rfl,rfl⟩
  ·cases h
 ·contradiction
 ·contradiction
 ·cases h
def nV(ok:FuncId→Bool)(g:Fm)(key:Value)(l:List MapEntry)(i0:Nat):Option (Nat×Value)→Option (Nat×Value)→Prop
 |none,none=>True
 |some (i,v),some (j,v')=>i=j∧VR ok g v v'∧i0≤i∧∃ kk n e,key=.int kk n∧l[i-i0]? = some e∧e.key=.int kk n
 |_,_=>False
theorem nV.cons{ok:FuncId→Bool}{g:Fm}{key:Value}{l:List MapEntry}{e:MapEntry}{i0:Nat}{a b:Option (Nat×Value)}(h:nV ok g key l (i0+1) a b):nV ok g key (e::l) i0 a b:=by
 cases a with
 |none=>cases b with
  |none=>trivial
  |some q=>exact h.elim
 |some p=>cases b with
  |none=>exact h.elim
  |some q =>
   obtain⟨i,v⟩:=p;obtain⟨j,v'⟩:=q;obtain⟨h1,h2,h3,kk,n,y,h4,h5,h6⟩:=h;refine⟨h1,h2,by omega,kk,n,y,h4,?_,h6⟩;rw[show i-i0=(i-(i0+1))+1 by omega];simpa using h5
theorem lS{ok:FuncId→Bool}{g:Fm}(k:IntKind){key key':Value}(hk:VR ok g key key'):∀ (l l':List MapEntry) (i:Nat) {r:Option (Nat×Value)},EntsR ok g l l'→Instr.findNow (.int k) key l i=some r→∃ r',Instr.findNow (.int k) key' l' i=some r'∧nV ok g key l i r r'
 |[],[],i,r,_,h=>by cases h;exact⟨none,rfl,trivial⟩
 |e::es,e'::es',i,r,hr,h=>by
  obtain⟨h1,-,h3⟩:=hr.2 0 e e' rfl rfl;unfold Instr.findNow at h⊢
  cases hs:Instr.sameNow (.int k) key e.key with
  |none=>rw[hs]at h;cases h
  |some b =>
   rw[hs]at h;obtain⟨kk,n,m,rfl,e2,rfl⟩:=oK hs;rw[e2]at h1 hs;cases hk
   cases he:e'.key with
   |int k2 m2 =>
    rw[he]at h1;cases h1;rw[hs]
    cases hb:(n==m) with
    |true =>
     rw[hb]at h;cases h
     have:n=m:=by simpa using hb
     subst this;exact⟨_,rfl,rfl,h3,Nat.le_refl _,kk,n,e,rfl,by simp,e2⟩
    |false =>
     rw[hb]at h;obtain⟨r',q1,q2⟩:=lS k (.int kk n) es es' (i+1) hr.tail h;exact⟨r',q1,q2.cons⟩
   |_=>rw[he]at h1;cases h1
 |[],_::_,_,_,h,_=>by cases h.1
 |_::_,[],_,_,h,_=>by cases h.1
theorem kW{kt:TypeId}{k:IntKind}(ht:P.underlying kt=some (.int k)){kk:IntKind}{n m:Int}:Qt P (Op.equal kt (.int kk n) (.int kk m)) (n==m):=by
 have hm:Op.maxDepth=9999+1:=rfl;unfold Op.equal;rw[hm];unfold Op.equalIn;refine(Qt.under ht).bind ?_;exact Qt.ite (fun _=>.pure _) fun h=>absurd rfl h
theorem equal_true{kt:TypeId}{k:IntKind}(hE:E.G=P.globals.size)(ht:P.underlying kt=some (.int k))(hc:∀ i,P.info? kt=some i→∀ u,i.desc≠.named "sync.copyChecker" u){x x' y y':Value}(hx:VR E.ok f x x')(hy:VR E.ok f y y'):SRel P E f (Op.equal kt x y) (Op.equal kt x' y') (fun _ a b=>a=b∧(a=true→∃ kk n,x=.int kk n∧y=.int kk n)):=by
 by_cases h:∃ kk n m,x=.int kk n∧y=.int kk m
 ·obtain⟨kk,n,m,rfl,rfl⟩:=h;cases hx;cases hy;refine(SRel.qt (kW ht) (kW ht)).mono fun g hg a b h=>⟨h.1.trans h.2.symm,fun ha=>?_⟩;rw[h.1]at ha
  have:n=m:=by simpa using ha
  subst this;exact⟨_,_,rfl,rfl⟩
 by_cases hp:∃ a b,x=.pointer (some a)∧y=.pointer (some b)
 ·obtain⟨a,b,rfl,rfl⟩:=hp;have hm:Op.maxDepth=9999+1:=rfl;unfold Op.equal;rw[hm];unfold Op.equalIn;refine(SRel.under ht).bind fun g hg q q' e=>?_;obtain⟨rfl,rfl⟩:=e;obtain⟨a',rfl,ha⟩:=hx.ptr_inv;obtain⟨b',rfl,hb⟩:=hy.ptr_inv
  dsimp only
  refine(SRel.behindNumber (ha.mono hg)).bind fun g1 hg1 u v huv=>?_;refine(SRel.behindNumber (hb.mono (Fm.le_trans hg hg1))).bind fun g2 hg2 u2 v2 huv2=>?_;refine SRel.glob fun g3 hg3 hgl=>?_;refine(SRel.program (R:=fun _ a b=>a=P∧b=P) (fun _ _=>⟨rfl,rfl⟩)).bind fun g4 hg4 p p' e=>?_;obtain⟨rfl,rfl⟩:=e;have h7:=hgl _ _ ((Fm.le_trans hg2 hg3) _ _ huv.1.1);refine SRel.never ?_;rw[if_neg (by simp;intro _;omega)];intro w a w2 hr;rw[Sem.run_bind,jM]at hr
  cases hi:p'.info? kt with
  |none=>rw[hi]at hr;cases hr
  |some i =>
   rw[hi]at hr;simp only[Result.andThen_ok]at hr;split at hr
   ·rename_i u' he;exact absurd he (hc i hi u')
   ·cases hr
 ·intro g hg w w' hw a w2 hr;obtain⟨g1,b,w2',new,q1,q2,q3,q4,q5,q6⟩:=op_equal hE ht (.int k) hc hx hy g hg w w' hw a w2 hr;refine⟨g1,b,w2',new,q1,q2,⟨q3,fun ha=>?_⟩,q4,q5,q6⟩;subst ha;exfalso;have hm:Op.maxDepth=9999+1:=rfl;unfold Op.equal at hr;rw[hm]at hr;unfold Op.equalIn at hr;rw[Sem.run_bind,show(underlying kt).run P w=.ok (.int k) w by rw[←Sem.runT_fst P _ w #[],(Qt.under ht)],Result.andThen_ok]at hr
  split at hr<;>first
   |contradiction
   |(split at hr
     ·rename_i e;subst e;exact h ⟨_,_,_,rfl,rfl⟩
     ·cases hr)
   |exact hp ⟨_,_,rfl,rfl⟩
   |(cases hr;done)
theorem ny{ok:FuncId→Bool}{g:Fm}{kt:TypeId}{k:IntKind}(ht:P.underlying kt=some (.int k)){key key':Value}(hk:VR ok g key key'):∀ (l l':List MapEntry) (i:Nat) {r':Option (Nat×Value)},EntsR ok g l l'→Instr.findNow (.int k) key l i=none→Instr.findNow (.int k) key' l' i=some r'→Never P (Instr.findAsking kt key l i)
 |[],[],i,r',_,h,_=>by cases h
 |e::es,e'::es',i,r',hr,h,h'=>by
  obtain⟨h1,-,-⟩:=hr.2 0 e e' rfl rfl;unfold Instr.findNow at h h';unfold Instr.findAsking
  cases hs':Instr.sameNow (.int k) key' e'.key with
  |none=>rw[hs']at h';cases h'
  |some b' =>
   obtain⟨kk,n,m,rfl,e2,rfl⟩:=oK hs';rw[hs']at h';rw[e2]at h1 hs';generalize hke:e.key=ke at h h1;by_cases hw:key=.tuple #[]∨ke=.tuple #[]
   ·exact Never.bind1 (fP ht (.int k) hw)
   ·cases hk with
    |wild=>exact absurd (.inl rfl) hw
    |int =>
     cases h1 with
     |wild=>exact absurd (.inr rfl) hw
     |int =>
      rw[hs']at h
      cases hb:(n==m) with
      |true=>rw[hb]at h;cases h
      |false =>
       rw[hb]at h h';intro w a w2 hrun;rw[Sem.run_bind,show(Op.equal kt (.int kk n) (.int kk m)).run P w=.ok (n==m) w by rw[←Sem.runT_fst P _ w #[],(kW ht)],Result.andThen_ok,hb]at hrun;exact ny ht (.int kk n) es es' (i+1) hr.tail h h' w a w2 hrun
 |[],_::_,_,_,h,_,_=>by cases h.1
 |_::_,[],_,_,h,_,_=>by cases h.1
theorem SRel.findAsking(hE:E.G=P.globals.size){kt:TypeId}{k:IntKind}(ht:P.underlying kt=some (.int k))(hc:∀ i,P.info? kt=some i→∀ u,i.desc≠.named "sync.copyChecker" u):∀ (l l':List MapEntry) (i:Nat) {f:Fm} {key key':Value},VR E.ok f key key'→EntsR E.ok f l l'→SRel P E f (Instr.findAsking kt key l i) (Instr.findAsking kt key' l' i) (fun g a b=>nV E.ok g key l i a b)
 |[],[],i,f,_,_,_,_=>SRel.pure fun _ _=>trivial
 |e::es,e'::es',i,f,key,key',hk,h=>by
  obtain⟨h1,-,h3⟩:=h.2 0 e e' rfl rfl;unfold Instr.findAsking;refine(equal_true hE ht hc hk h1).bind fun g hg b b' e=>?_;obtain⟨rfl,hb⟩:=e;refine SRel.ite (fun ht=>SRel.pure fun g1 hg1=>?_) fun _=>?_
  ·obtain⟨kk,n,q1,q2⟩:=hb ht;exact⟨rfl,h3.mono (Fm.le_trans hg hg1),Nat.le_refl _,kk,n,_,q1,by simp,q2⟩
  ·exact(SRel.findAsking hE ht hc es es' (i+1) (hk.mono hg) (h.tail.mono hg)).mono fun _ _ _ _ h=>h.cons
 |[],_::_,_,_,_,_,_,h=>by cases h.1
 |_::_,[],_,_,_,_,_,h=>by cases h.1
theorem SRel.findKey(hE:E.G=P.globals.size){kt:TypeId}{k:IntKind}(ht:P.underlying kt=some (.int k))(hc:∀ i,P.info? kt=some i→∀ u,i.desc≠.named "sync.copyChecker" u){key key':Value}(hk:VR E.ok f key key'){l l':List MapEntry}(h:EntsR E.ok f l l'):SRel P E f (Instr.findKey kt key l) (Instr.findKey kt key' l') (fun g a b=>nV E.ok g key l 0 a b):=by
 unfold Instr.findKey;refine(SRel.under ht).bind fun g hg d d' e=>?_;obtain⟨rfl,rfl⟩:=e;have hk':=hk.mono hg;have h':=h.mono hg
 cases hn:Instr.findNow (.int k) key l 0 with
 |some r =>
  obtain⟨r',q1,q2⟩:=lS k hk' l l' 0 h' hn;rw[q1];refine SRel.pure fun g1 hg1=>?_
  cases r with
  |none=>cases r' with
   |none=>trivial
   |some p=>exact q2.elim
  |some p=>cases r' with
   |none=>exact q2.elim
   |some p' =>
    obtain⟨i,v⟩:=p;obtain⟨j,v'⟩:=p';obtain⟨a1,a2,a3⟩:=q2;exact⟨a1,a2.mono hg1,a3⟩
 |none =>
  cases hn':Instr.findNow (.int k) key' l' 0 with
  |some r'=>exact SRel.never (ny ht hk' l l' 0 h' hn hn')
  |none=>exact SRel.findAsking hE ht hc l l' 0 hk' h'
theorem gB{kt:TypeId}{k:IntKind}(ht:P.underlying kt=some (.int k))(b:Bool)(n:Nat)(v:Value):Qt P (Instr.checkKey b (n+1) kt v) ():=by
 unfold Instr.checkKey;refine(Qt.under ht).bind ?_
 split<;>first
  |contradiction
  |exact .pure _
theorem op_lookup(hE:E.G=P.globals.size){t kt e:TypeId}{k:IntKind}(h0:P.underlying t=some (.map kt e))(ht:P.underlying kt=some (.int k))(hc:∀ i,P.info? kt=some i→∀ u,i.desc≠.named "sync.copyChecker" u)(hz:ZFlat P e){x x' key key':Value}(hx:VR E.ok f x x')(hk:VR E.ok f key key')(b:Bool) :
 SRel P E f (Instr.lookup t x key b) (Instr.lookup t x' key' b) (VV E):=by
 unfold Instr.lookup;refine(SRel.under h0).bind fun g hg d d' e=>?_;obtain⟨rfl,rfl⟩:=e
 have rest:∀ g,f.le g→∀ (es es':Array MapEntry),EntsR E.ok g es.toList es'.toList→SRel P E g (do
  Instr.checkKey es.isEmpty 10000 kt key
  let (v,ok) ←match ←Instr.findKey kt key es.toList with
   |some (_,v)=>Pure.pure (v,true)
   |none=>Pure.pure (←zeroValue e,false)
  Pure.pure (if b then .tuple #[v,.bool ok] else v)) (do
  Instr.checkKey es'.isEmpty 10000 kt key'
  let (v,ok) ←match ←Instr.findKey kt key' es'.toList with
   |some (_,v)=>Pure.pure (v,true)
   |none=>Pure.pure (←zeroValue e,false)
  Pure.pure (if b then .tuple #[v,.bool ok] else v)) (VV E):=by
  intro g hg es es' he;refine(SRel.qt (gB ht _ 9999 _) (gB ht _ 9999 _)).bind fun g1 hg1 _ _ _=>?_;refine(SRel.findKey hE ht hc (hk.mono (Fm.le_trans hg hg1)) (he.mono hg1)).bind fun g2 hg2 o o' ho=>?_
  have fin:∀ g v v' (c:Bool),VR E.ok g v v'→SRel P E g (Pure.pure (if b then .tuple #[v,.bool c] else v)) (Pure.pure (if b then .tuple #[v',.bool c] else v')) (VV E):=by
   intro g v v' c hv
   cases b with
   |false=>exact SRel.pure fun g1 hg1=>hv.mono hg1
   |true=>exact SRel.pure fun g1 hg1=>(((AR.empty.push (hv.mono hg1)).push (.bool c)).tuple:VR E.ok g1 (.tuple #[v,.bool c]) (.tuple #[v',.bool c]))
  cases o with
  |none =>
   cases o' with
   |none =>
    dsimp only
    refine(SRel.zero hz).bind fun g3 hg3 v v' hv=>?_;obtain⟨rfl,hv⟩:=hv;refine(SRel.pure (R:=fun _ a b=>a=(v,false)∧b=(v,false)) fun _ _=>⟨rfl,rfl⟩).bind fun g4 hg4 p p' hp=>?_;obtain⟨rfl,rfl⟩:=hp;exact fin _ _ _ _ (hv _ _)
   |some p=>exact ho.elim
  |some p =>
   cases o' with
   |none=>exact ho.elim
   |some p' =>
    obtain⟨i,v⟩:=p;obtain⟨i',v'⟩:=p';obtain⟨rfl,hv,-⟩:=ho
    dsimp only
    refine(SRel.pure (R:=fun _ a b=>a=(v,true)∧b=(v',true)) fun _ _=>⟨rfl,rfl⟩).bind fun g4 hg4 p p' hp=>?_;obtain⟨rfl,rfl⟩:=hp;exact fin _ _ _ _ (hv.mono hg4)
 cases hx with
 |mapN =>
  dsimp only
  refine(SRel.pure (R:=fun _ a b=>a=#[]∧b=#[]) fun _ _=>⟨rfl,rfl⟩).bind fun g1 hg1 es es' he=>?_;obtain⟨rfl,rfl⟩:=he;exact rest g1 (Fm.le_trans hg hg1) _ _ ⟨rfl,fun i x x' a b=>by simp at a⟩
 |map h =>
  dsimp only
  refine(SRel.getObj (hg _ _ h)).bind fun g1 hg1 o o' ho=>?_
  cases ho with
  |map hs he =>
   dsimp only
   rename_i es es' c;refine(SRel.pure (R:=fun _ a b=>a=es∧b=es') fun _ _=>⟨rfl,rfl⟩).bind fun g2 hg2 y y' hy=>?_;obtain⟨rfl,rfl⟩:=hy;exact rest g2 (Fm.le_trans hg (Fm.le_trans hg1 hg2)) _ _ (EntsR.mono hg2 ⟨by simpa using hs,fun i x x' a b=>he i x x' (by simpa using a) (by simpa using b)⟩)
  |_=>exact SRel.never (Never.bind1 Never.halt)
 |_=>exact SRel.never (Never.bind1 Never.halt)
theorem keep_same{kk:IntKind}{n:Int}:Qt P (Instr.keyThatStays (.int kk n) (.int kk n)) (.int kk n):=by
 unfold Instr.keyThatStays;rw[if_pos (by simp[Instr.sameBits])];exact .pure _
theorem op_mapUpdate(hE:E.G=P.globals.size){t kt e:TypeId}{k:IntKind}(h0:P.underlying t=some (.map kt e))(ht:P.underlying kt=some (.int k))(hc:∀ i,P.info? kt=some i→∀ u,i.desc≠.named "sync.copyChecker" u){x x' key key' v v':Value}(hx:VR E.ok f x x')(hk:VR E.ok f key key')(hv:VR E.ok f v v') :
 SRel P E f (Instr.mapUpdate t x key v) (Instr.mapUpdate t x' key' v') (fun _ _ _=>True):=by
 unfold Instr.mapUpdate;refine(SRel.under h0).bind fun g hg d d' e=>?_;obtain⟨rfl,rfl⟩:=e
 cases hx with
 |mapN=>exact SRel.never (aK _)
 |@map r r' h =>
  dsimp only
  refine(SRel.getObj (hg _ _ h)).bind fun g1 hg1 o o' ho=>?_
  cases ho with
  |@map es es' c hs he =>
   dsimp only
   have hee:EntsR E.ok g1 es.toList es'.toList:=⟨by simpa using hs,fun i x x' a b=>he i x x' (by simpa using a) (by simpa using b)⟩;refine(SRel.qt (gB ht _ 9999 _) (gB ht _ 9999 _)).bind fun g2 hg2 _ _ _=>?_;refine(SRel.findKey hE ht hc (hk.mono (Fm.le_trans hg (Fm.le_trans hg1 hg2))) (hee.mono hg2)).bind fun g3 hg3 o o' ho=>?_;have l3:=Fm.le_trans hg (Fm.le_trans hg1 (Fm.le_trans hg2 hg3))
   cases o with
   |none =>
    cases o' with
    |none =>
     dsimp only
     refine SRel.setObj (l3 _ _ h) (.map (by simp[hs]) fun i x x' a b=>?_) ⟨rfl,rfl⟩;rw[Array.getElem?_push]at a b;by_cases e:i=es.size
     ·rw[if_pos e]at a;rw[if_pos (by rw[e,hs])]at b;cases a;cases b;exact⟨hk.mono l3,rfl,hv.mono l3⟩
     ·rw[if_neg e]at a
      rw[if_neg (by rw[←hs];exact e)]at b;exact EntR.mono (Fm.le_trans hg2 hg3) (he i x x' a b)
    |some p=>exact ho.elim
   |some p =>
    cases o' with
    |none=>exact ho.elim
    |some p' =>
     obtain⟨j,u⟩:=p;obtain⟨j',u'⟩:=p';obtain⟨rfl,hu,-,kk,n,y,rfl,hy,hyk⟩:=ho
     dsimp only
     cases hk
     have hj:es[j]? = some y:=by simpa using hy
     have hl:=(Array.getElem?_eq_some_iff.1 hj).1;have hj':es'[j]? = some es'[j]:=Array.getElem?_eq_getElem (by omega);have hkj:=(he j _ _ hj hj').1;rw[hyk]at hkj;rw[hj,hj'];simp only[Option.map_some,Option.getD_some]
     cases hk2:es'[j].key with
     |int a b =>
      rw[hk2]at hkj;cases hkj;rw[hyk];refine(SRel.qt keep_same keep_same).bind fun g4 hg4 a b hab=>?_;obtain⟨rfl,rfl⟩:=hab;refine SRel.setObj (hg4 _ _ (l3 _ _ h)) (.map (by simp[hs]) fun i x x' a1 b1=>?_) ⟨rfl,rfl⟩;rw[Array.getElem?_modify]at a1 b1;by_cases e:j=i
      ·rw[if_pos e]at a1 b1;obtain⟨z,hz,rfl⟩:=Option.map_eq_some_iff.1 a1;obtain⟨z',hz',rfl⟩:=Option.map_eq_some_iff.1 b1;obtain⟨-,a3,-⟩:=he i z z' hz hz';exact⟨.int _ _,a3,hv.mono (Fm.le_trans l3 hg4)⟩
      ·rw[if_neg e]at a1 b1;exact EntR.mono (Fm.le_trans hg2 (Fm.le_trans hg3 hg4)) (he i x x' a1 b1)
     |_=>rw[hk2]at hkj;cases hkj
  |_=>exact SRel.never Never.halt
 |_=>exact SRel.never Never.halt
theorem SRel.xloadBytes:∀ (n:Nat) {f:Fm} {a a':Addr} (acc:ByteArray),DR f a a'→SRel P E f (Extern.Bytes.loadBytes a n acc) (Extern.Bytes.loadBytes a' n acc) (fun _ x y=>x=y)
 |0,f,a,a',acc,h=>SRel.pure fun _ _=>rfl
 |n+1,f,a,a',acc,h=>by
  unfold Extern.Bytes.loadBytes;refine(SRel.loadD h).bind fun g hg v v' hv=>?_
  cases hv with
  |int k m =>
   cases k<;>first
    |exact SRel.xloadBytes n _ ((h.mono hg).add 1)
    |exact SRel.stuck
  |_=>exact SRel.stuck
theorem SRel.xbytesOf{x x':Value}(h:VR E.ok f x x'):SRel P E f (Extern.Bytes.bytesOf x) (Extern.Bytes.bytesOf x') (fun _ x y=>x=y):=by
 cases h with
 |string s=>exact SRel.pure fun _ _=>rfl
 |sliceN n c=>exact SRel.pure fun _ _=>rfl
 |@slice b b' o s n c h=>exact SRel.xloadBytes (a:=⟨b,o,s⟩) (a':=⟨b',o,s⟩) n _ ⟨h,rfl,rfl⟩
 |slice0 a a'=>exact SRel.pure fun _ _=>rfl
 |_=>exact SRel.stuck
theorem SRel.xasByte{x x':Value}(h:VR E.ok f x x'):SRel P E f (Extern.Bytes.asByte x) (Extern.Bytes.asByte x') (fun _ x y=>x=y):=by
 cases h with
 |int k m=>cases k<;>first|exact SRel.pure fun _ _=>rfl|exact SRel.stuck
 |_=>exact SRel.stuck
theorem AR.two{x x':Array Value}(h:AR E.ok f x x'):(∃a b a' b',x=#[a,b]∧x'=#[a',b']∧VR E.ok f a a'∧VR E.ok f b b')∨x.size≠2:=by
 by_cases hs:x.size=2
 ·left;have hs':x'.size=2:=h.size▸hs;refine⟨x[0],x[1],x'[0],x'[1],?_,?_,h.at_ 0 _ _ (Array.getElem?_eq_getElem (by omega)) (Array.getElem?_eq_getElem (by omega)),h.at_ 1 _ _ (Array.getElem?_eq_getElem (by omega)) (Array.getElem?_eq_getElem (by omega))⟩
  ·apply Array.ext
   ·simpa using hs
   ·intro i h1 h2
    have:i=0∨i=1:=by simp at h2;omega
    rcases this with rfl|rfl<;>rfl
  ·apply Array.ext
   ·simpa using hs'
   ·intro i h1 h2
    have:i=0∨i=1:=by simp at h2;omega
    rcases this with rfl|rfl<;>rfl
 ·exact .inr hs
theorem x_count{x x':Array Value}(h:AR E.ok f x x'):SRel P E f (Extern.BytealgCount.count x) (Extern.BytealgCount.count x') (VV E):=by
 rcases h.two with⟨a,b,a',b',rfl,rfl,h1,h2⟩|hn
 ·exact(SRel.xbytesOf h1).bind fun g hg s s' e=>by
   subst e
   exact(SRel.xasByte (h2.mono hg)).bind fun g1 hg1 c c' e=>by
    subst e;exact SRel.pure fun _ _=>.int _ _
 ·refine SRel.never fun w a w2 hr=>?_;obtain⟨l⟩:=x;rcases l with _|⟨b,_|⟨c,_|⟨d,l⟩⟩⟩
  ·cases hr
  ·cases hr
  ·exact hn rfl
  ·cases hr
theorem x_indexByte{x x':Array Value}(h:AR E.ok f x x'):SRel P E f (Extern.BytealgIndexByte.indexByte x) (Extern.BytealgIndexByte.indexByte x') (VV E):=by
 rcases h.two with⟨a,b,a',b',rfl,rfl,h1,h2⟩|hn
 ·exact(SRel.xbytesOf h1).bind fun g hg s s' e=>by
   subst e
   exact(SRel.xasByte (h2.mono hg)).bind fun g1 hg1 c c' e=>by
    subst e;split
    ·exact SRel.pure fun _ _=>.int _ _
    ·exact SRel.pure fun _ _=>.int _ _
 ·refine SRel.never fun w a w2 hr=>?_;obtain⟨l⟩:=x;rcases l with _|⟨b,_|⟨c,_|⟨d,l⟩⟩⟩
  ·cases hr
  ·cases hr
  ·exact hn rfl
  ·cases hr
theorem x_index(hE:E.G=P.globals.size){x x':Array Value}(h:AR E.ok f x x'):SRel P E f (Extern.BytealgIndex.index x) (Extern.BytealgIndex.index x') (VV E):=by
 rcases h.two with⟨a,b,a',b',rfl,rfl,h1,h2⟩|hn
 ·refine(SRel.xbytesOf h1).bind fun g hg s s' e=>?_;subst e;refine(SRel.xbytesOf (h2.mono hg)).bind fun g1 hg1 c c' e=>?_;subst e
  have hml:∀ {α β:Type} (k:Int→Sem α) (t:Sem β) (R:Fm→α→β→Prop),SRel P E g1 (Extern.BytealgIndex.maxLen >>= k) t R:=by
   intro α β k t R g2 hg2 w w' hw r w2 hr;exfalso;unfold Extern.BytealgIndex.maxLen at hr;rw[Sem.run_bind,Sem.run_bind]at hr
   have hga:(∃gi,gi<E.G∧(globalAddr "internal/bytealg.MaxLen").run P w=.ok ⟨gi,0,none⟩ w)∨∃hh w3,(globalAddr "internal/bytealg.MaxLen").run P w=.halt hh w3:=by
    unfold globalAddr;rw[Sem.run_bind,show(Go.program).run P w=.ok P w from rfl,Result.andThen_ok];split
    ·rename_i gi hgi;obtain⟨hlt,-⟩:=Array.findIdx?_eq_some_iff_getElem.1 hgi;exact .inl ⟨gi,by omega,rfl⟩
    ·exact .inr ⟨_,_,rfl⟩
   rcases hga with⟨gi,hlt,e⟩|⟨hh,w3,e⟩
   ·rw[e,Result.andThen_ok,Sem.run_bind]at hr;obtain⟨ty,eg⟩:=hw.gl gi hlt
    have hc:w.cell? ⟨gi,0,none⟩=none:=by
     unfold World.cell?;simp only[eg];rfl
    have:∃ hh w3,(Go.load ⟨gi,0,none⟩).run P w=.halt hh w3:=by
     simp only[Go.load,Sem.run,hc,World.farLoad,eg];exact⟨_,_,rfl⟩
    obtain⟨hh,w3,e2⟩:=this;rw[e2]at hr;cases hr
   ·rw[e]at hr;cases hr
  exact hml _ _ _
 ·refine SRel.never fun w a w2 hr=>?_;obtain⟨l⟩:=x;rcases l with _|⟨b,_|⟨c,_|⟨d,l⟩⟩⟩
  ·cases hr
  ·cases hr
  ·exact hn rfl
  ·cases hr
end Co
namespace Co
variable {P:Program}{E:Env}{f:Fm}
def NoCopy(P:Program)(t:TypeId):Prop:=∀ i,P.info? t=some i→∀ u,i.desc≠.named "sync.copyChecker" u
theorem SRel.deadGlobalV{β:Type}{t:TypeId}{d:TypeDesc}{g o:Nat}{s:Option Nat}(hg:g<E.G)(h1:P.underlying t=some d)(h2:Plain d){c:Sem β}{R:Fm→Value→β→Prop}:SRel P E f (Go.loadVar t ⟨g,o,s⟩) c R:=by
 have hq:Qt P (Go.isAgg t) false:=by
  unfold Go.isAgg;refine(Qt.under h1).bind ?_
  cases h2<;>exact .pure _
 intro g1 hg1 w w' hw a w2 hr;exfalso;unfold Go.loadVar at hr;rw[Sem.run_bind,show(Go.isAgg t).run P w=.ok false w by rw[←Sem.runT_fst P _ w #[],hq],Result.andThen_ok]at hr;obtain⟨_,_,_,_,_,_,h,_⟩:=SRel.deadGlobal (P:=P) (E:=E) (f:=f) (β:=Value) (R:=fun _ _ _=>False) (t:=Pure.pure .nilIface) hg g1 hg1 w w' hw a w2 hr;exact h
def ExtOk(P:Program)(E:Env)(i:FuncId):Prop:=∃ fn e,P.funcs[i]? = some fn∧(fn.name== "runtime.NumGoroutine")=false∧fn.body.isNone=true∧Extern.findNext fn=none∧Extern.find fn=some e∧∀ (f:Fm) a a',AR E.ok f a a'→SRel P E f (e a) (e a') (VV E)
def OkF(P:Program)(E:Env)(i:FuncId):Prop:=(E.ok i=true∧∃ fn,P.funcs[i]? = some fn∧(fn.name== "runtime.NumGoroutine")=false∧fn.body.isNone=false)∨ExtOk P E i
def OkM(E:Env):Option Operand→Prop
 |none=>True
 |some x=>OkX E x
def lG(P:Program)(E:Env)(c:Call):Prop :=
 match c.callee with
 |.value (.func i)=>OkF P E i∧∀ x∈c.args,OkX E x
 |.builtin .len=>∃ x t e,c.args=#[x]∧c.argTypes=#[t]∧P.underlying t=some (.slice e)∧OkX E x
 |.builtin .append=>∃ x y t t2 e,c.args=#[x,y]∧c.argTypes=#[t,t2]∧P.underlying t=some (.slice e)∧NoInt P t2∧jy P e∧OkX E x∧OkX E y
 |.builtin .copy=>∃ x y t t2 e,c.args=#[x,y]∧c.argTypes=#[t,t2]∧P.underlying t=some (.slice e)∧OkX E x∧OkX E y
 |_=>False
def OkOp(P:Program)(E:Env):Op→Prop
 |.load t x=>OkX E x∨∃g d,x=.global g∧g<E.G∧P.underlying t=some d∧Plain d
 |.move x|.assign x|.box _ x|.unOp _ _ x|.makeInterface _ x|.extract x _=>OkX E x
 |.pick c a b=>OkX E c∧OkX E a∧OkX E b
 |.alloc t=>ZFlat P t
 |.build t parts=>ZFlat P t∧∀ x∈parts,OkX E x.2
 |.buildSlice t _ parts=>(∃e,P.underlying t=some (.slice e)∧jy P e)∧∀ x∈parts,OkX E x.2
 |.store _ a x=>OkX E a∧OkX E x
 |.binOp op t x y _=>OkX E x∧OkX E y∧((∃d,P.underlying t=some d∧Plain d∧NoCopy P t)∨((∃ms,P.underlying t=some (.interface ms))∧y=.const .nilIface)∨(op=.eql∨op=.neq)∧∃ fs,PlainS P t fs)
 |.convert s d x=>OkX E x∧(ConvI P s d∨ConvB P s d)
 |.makeSlice t l c=>(∃e,P.underlying t=some (.slice e)∧jy P e)∧OkX E l∧OkX E c
 |.slice t x lo hi mx=>(∃e,P.underlying t=some (.slice e))∧OkX E x∧OkM E lo∧OkM E hi∧mx=none
 |.fieldAddr s x i=>FieldOk P s i∧OkX E x
 |.indexAddr t x i=>((∃e,P.underlying t=some (.slice e))∨∃n e,P.underlying t=some (.array n e))∧OkX E x∧OkX E i
 |.index t x i=>((∃n e,P.underlying t=some (.array n e))∨P.underlying t=some .string)∧OkX E x∧OkX E i
 |.range t x=>P.underlying t=some .string∧OkX E x
 |.next x b=>b=true∧OkX E x
 |.makeMap _ r=>r=none
 |.lookup t x i _=>(∃kt e k,P.underlying t=some (.map kt e)∧P.underlying kt=some (.int k)∧NoCopy P kt∧ZFlat P e)∧OkX E x∧OkX E i
 |.mapUpdate t x i v=>(∃kt e k,P.underlying t=some (.map kt e)∧P.underlying kt=some (.int k)∧NoCopy P kt)∧OkX E x∧OkX E i∧OkX E v
 |.call c=>lG P E c
 |_=>False
theorem ev_rel{fr fr':Frame}(h:AR E.ok f fr.tmps fr'.tmps):EvR E f fr.eval fr'.eval:=by
 intro x hx
 cases x with
 |tmp t =>
  show VR E.ok f (fr.tmps.getD t undef) (fr'.tmps.getD t undef);rw[Array.getD_eq_getD_getElem?,Array.getD_eq_getD_getElem?]
  cases ht:fr.tmps[t]? with
  |none=>rw[h.get_none ht];exact dm _ _
  |some u =>
   obtain⟨u',h1,h2⟩:=h.get ht;rw[h1];exact h2
 |const v=>exact hx E.ok f
 |global g=>exact hx.elim
 |func i=>exact .func hx rfl rfl (fun i u u' h=>by simp at h) (fun i u u' h=>by simp at h)
theorem map_rel{ρ ρ':Operand→Value}(h:EvR E f ρ ρ'){l:Array Operand}(hl:∀ x∈l,OkX E x):AR E.ok f (l.map ρ) (l.map ρ'):=by
 refine⟨by simp,fun i u u' a b=>?_⟩;rw[Array.getElem?_map]at a b;obtain⟨x,hx,rfl⟩:=Option.map_eq_some_iff.1 a;rw[hx]at b;cases b;exact h x (hl x (Array.mem_of_getElem? hx))
theorem m_rel{ρ ρ':Operand→Value}(h:EvR E f ρ ρ'){x:Option Operand}(hx:OkM E x):MR E.ok f (x.map ρ) (x.map ρ'):=by
 cases x with
 |none=>exact trivial
 |some x=>exact h x hx
theorem call_rel1{i:FuncId}{fn:Func}(h1:E.ok i=true)(h2:P.funcs[i]? = some fn)(h3:(fn.name== "runtime.NumGoroutine")=false)(h4:fn.body.isNone=false){a a':Array Value}(h:AR E.ok f a a'):SRel P E f (callFunc i a) (callFunc i a') (NN E):=by
 unfold callFunc;refine(SRel.program (R:=fun _ a b=>a=P∧b=P) (fun _ _=>⟨rfl,rfl⟩)).bind fun g hg p p' e=>?_;obtain⟨rfl,rfl⟩:=e;rw[h2]
 dsimp only
 rw[if_neg (by rw[h3];exact Bool.false_ne_true),if_neg (by rw[h4];exact Bool.false_ne_true),if_neg (by rw[h3];exact Bool.false_ne_true),if_neg (by rw[h4];exact Bool.false_ne_true)];exact SRel.pure fun g1 hg1=>.enter h1 (h.mono (Fm.le_trans hg hg1))
theorem call_rel{i:FuncId}(hi:OkF P E i){a a':Array Value}(h:AR E.ok f a a'):SRel P E f (callFunc i a) (callFunc i a') (NN E):=by
 rcases hi with⟨h1,fn,h2,h3,h4⟩|⟨fn,e,h2,h3,h4,h5,h6,h7⟩
 ·exact call_rel1 h1 h2 h3 h4 h
 unfold callFunc;refine(SRel.program (R:=fun _ a b=>a=P∧b=P) (fun _ _=>⟨rfl,rfl⟩)).bind fun g hg p p' e=>?_;obtain⟨rfl,rfl⟩:=e;rw[h2]
 dsimp only
 simp only[h3,h4,h5,h6,Bool.false_eq_true,if_false,if_true];refine(SRel.mark (.inr ⟨i,rfl⟩)).bind fun g1 hg1 _ _ _=>?_;exact((h7 _ _ _ (h.mono (Fm.le_trans hg hg1)))).val
set_option maxHeartbeats 1000000 in
theorem op_binOpN(op:BinOp){g:Fm}{t:TypeId}{ms:Array (String×TypeId)}(h1:P.underlying t=some (.interface ms)){v v':Value}(hxx:VR E.ok g v v'):SRel P E g (binOp op t v .nilIface) (binOp op t v' .nilIface) (VV E):=by
 have heq:SRel P E g (do Pure.pure (Value.bool (←Op.equal t v .nilIface))) (do Pure.pure (Value.bool (←Op.equal t v' .nilIface))) (VV E):=(op_equalN h1 hxx).bind fun g hg a b e=>by subst e;exact dS _
 have hne:SRel P E g (do Pure.pure (Value.bool (!(←Op.equal t v .nilIface)))) (do Pure.pure (Value.bool (!(←Op.equal t v' .nilIface)))) (VV E):=(op_equalN h1 hxx).bind fun g hg a b e=>by subst e;exact dS _
 by_cases hw:v=.tuple #[]
 ·subst hw
  cases op<;>first
   |exact SRel.never fun w a w2 hr=>by cases hr
   |exact SRel.never (Never.bind1 (equalN_never h1))
 ·cases op<;>cases hxx<;>first
   |exact absurd rfl hw
   |exact heq
   |exact hne
   |exact SRel.unsupported
   |exact SRel.stuck
theorem op_rel(hE:E.G=P.globals.size){fr fr':Frame}(h:AR E.ok f fr.tmps fr'.tmps){o:Oper}(ho:OkOp P E o.op):SRel P E f (execOp fr.eval o) (execOp fr'.eval o) (NN E):=by
 have hev:=ev_rel h;obtain⟨dst,op,type,pos,after,guard⟩:=o;unfold execOp
 cases op with
 |move x=>exact SRel.pure fun g hg=>.value ((hev x ho).mono hg)
 |assign x=>exact SRel.pure fun g hg=>.value ((hev x ho).mono hg)
 |pick c a b=>exact op_pick hev ho.1 ho.2.1 ho.2.2
 |alloc t=>exact(op_alloc ho).val
 |box t x=>exact(op_box (hev x ho)).val
 |build t parts=>exact(op_build hev ho.1 ho.2).val
 |buildSlice t n parts=>obtain⟨⟨e,h1,h2⟩,h3⟩:=ho;exact(op_buildSlice hev h1 h2 h3).val
 |load t x =>
  rcases ho with ho|⟨g,d,rfl,hg,h1,h2⟩
  ·exact(op_loadAt (hev x ho)).val
  ·refine SRel.val ?_;show SRel P E f (Go.loadVar t ⟨g,0,none⟩) (Instr.loadAt t (fr'.eval (.global g))) (VV E);exact SRel.deadGlobalV hg h1 h2
 |store t a x=>exact(op_storeAt (hev a ho.1) (hev x ho.2)).unit
 |binOp op t x y yt =>
  obtain⟨hx,hy,h1⟩:=ho;rcases h1 with⟨d,h1,h2,h3⟩|⟨⟨ms,h1⟩,rfl⟩|⟨h1,fs,h2⟩
  ·exact SRel.val ((op_guard op x y h1 h2 (hev x hx) (hev y hy)).bind fun g hg _ _ _=>op_binOp hE op h1 h2 h3 ((hev x hx).mono hg) ((hev y hy).mono hg))
  ·refine SRel.val ((op_guardN op x (hev x hx)).bind fun g hg _ _ _=>?_);have hxx:=(hev x hx).mono hg;show SRel P E g (binOp op t (fr.eval x) .nilIface) (binOp op t (fr'.eval x) .nilIface) (VV E);exact op_binOpN op h1 hxx
  ·exact SRel.val (op_binS hE h1 h2 x y (hev x hx) (hev y hy))
 |unOp op t x=>exact(op_unary op (hev x ho)).val
 |convert s d x=>rcases ho.2 with h1|h1;exact(op_convI h1 (hev x ho.1)).val;exact(op_convB h1 (hev x ho.1)).val
 |makeInterface t x=>exact(nP (hev x ho)).val
 |makeSlice t l c=>obtain⟨⟨e,h1,h2⟩,h3,h4⟩:=ho;exact(op_makeSlice h1 h2 (hev l h3) (hev c h4)).val
 |slice t x lo hi mx=>obtain⟨⟨e,h1⟩,h2,h3,h4,rfl⟩:=ho;exact(op_slice h1 (hev x h2) (m_rel hev h3) (m_rel hev h4)).val
 |fieldAddr s x i=>exact(op_fieldAt ho.1 (hev x ho.2)).val
 |indexAddr t x i =>
  obtain⟨h1,h2,h3⟩:=ho;rcases h1 with⟨e,h1⟩|⟨n,e,h1⟩
  ·exact(op_indexAt h1 (hev x h2) (hev i h3)).val
  ·exact(op_indexAtA h1 (hev x h2) (hev i h3)).val
 |index t x i =>
  obtain⟨h1,h2,h3⟩:=ho;rcases h1 with⟨n,e,h1⟩|h1
  ·exact(op_indexA h1 (hev x h2) (hev i h3)).val
  ·exact(op_indexStr h1 (hev x h2) (hev i h3)).val
 |range t x=>exact(op_rangeS ho.1 (hev x ho.2)).val
 |next x b=>obtain⟨rfl,h2⟩:=ho;exact(op_nextS (hev x h2)).val
 |makeMap t r=>obtain rfl:=ho;exact op_makeMap.val
 |lookup t x i b=>obtain⟨⟨kt,e,k,h1,h2,h3,h4⟩,h5,h6⟩:=ho;exact(op_lookup hE h1 h2 h3 h4 (hev x h5) (hev i h6) b).val
 |mapUpdate t x i v=>obtain⟨⟨kt,e,k,h1,h2,h3⟩,h5,h6,h7⟩:=ho;exact(op_mapUpdate hE h1 h2 h3 (hev x h5) (hev i h6) (hev v h7)).unit
 |extract x i=>exact(op_extract (hev x ho) i).val
 |call c =>
  obtain⟨callee,args,argTypes⟩:=c
  dsimp only
  unfold resolve
  cases callee with
  |value fx =>
   cases fx with
   |func i =>
    obtain⟨h1,h2⟩:=ho;have h3:=map_rel hev h2
    show SRel P E f (do
     let d ←(Pure.pure {target:=Target.fn (.func i) #[],args:=#[]++args.map fr.eval}:Sem Deferred)
     invoke d.target d.args) (do
     let d ←(Pure.pure {target:=Target.fn (.func i) #[],args:=#[]++args.map fr'.eval}:Sem Deferred)
     invoke d.target d.args) (NN E)
    refine(SRel.pure (R:=fun g a b=>a={target:=Target.fn (.func i) #[],args:=#[]++args.map fr.eval}∧b={target:=Target.fn (.func i) #[],args:=#[]++args.map fr'.eval}) (fun _ _=>⟨rfl,rfl⟩)).bind fun g hg a b e=>?_;obtain⟨rfl,rfl⟩:=e;show SRel P E g (callFunc i ((#[]++args.map fr.eval)++#[])) (callFunc i ((#[]++args.map fr'.eval)++#[])) (NN E);rw[Array.empty_append,Array.append_empty,Array.empty_append,Array.append_empty];exact call_rel h1 (h3.mono hg)
   |_=>exact ho.elim
  |invoke r m=>exact ho.elim
  |builtin b =>
   cases b with
   |len =>
    obtain⟨x,t,e,h1,h2,h3,h4⟩:=ho;simp only at h1 h2;subst h1 h2
    exact SRel.bind (R:=fun g a b=>a={target:=Target.builtin .len #[t] type (#[x].map fun|.const _=>true|_=>false),args:=#[x].map fr.eval}∧b={target:=Target.builtin .len #[t] type (#[x].map fun|.const _=>true|_=>false),args:=#[x].map fr'.eval}) (SRel.pure fun _ _=>⟨rfl,rfl⟩) fun g hg a b e=>by
     obtain⟨rfl,rfl⟩:=e;simp only[List.map_toArray,List.map_cons,List.map_nil];exact(op_len h3 ((hev x h4).mono hg)).val
   |append =>
    obtain⟨x,y,t,t2,e,h1,h2,h3,h4,h5,h6,h7⟩:=ho;simp only at h1 h2;subst h1 h2
    exact SRel.bind (R:=fun g a b=>a={target:=Target.builtin .append #[t,t2] type (#[x,y].map fun|.const _=>true|_=>false),args:=#[x,y].map fr.eval}∧b={target:=Target.builtin .append #[t,t2] type (#[x,y].map fun|.const _=>true|_=>false),args:=#[x,y].map fr'.eval}) (SRel.pure fun _ _=>⟨rfl,rfl⟩) fun g hg a b e=>by
     obtain⟨rfl,rfl⟩:=e;simp only[List.map_toArray,List.map_cons,List.map_nil];exact(op_append h3 h4 h5 ((hev x h6).mono hg) ((hev y h7).mono hg)).val
   |copy =>
    obtain⟨x,y,t,t2,e,h1,h2,h3,h4,h5⟩:=ho;simp only at h1 h2;subst h1 h2
    exact SRel.bind (R:=fun g a b=>a={target:=Target.builtin .copy #[t,t2] type (#[x,y].map fun|.const _=>true|_=>false),args:=#[x,y].map fr.eval}∧b={target:=Target.builtin .copy #[t,t2] type (#[x,y].map fun|.const _=>true|_=>false),args:=#[x,y].map fr'.eval}) (SRel.pure fun _ _=>⟨rfl,rfl⟩) fun g hg a b e=>by
     obtain⟨rfl,rfl⟩:=e;simp only[List.map_toArray,List.map_cons,List.map_nil];exact(op_copy h3 ((hev x h4).mono hg) ((hev y h5).mono hg)).val
   |_=>exact ho.elim
 |_=>exact ho.elim
end Co
namespace Co
open Conc
variable {P:Program}{E:Env}{f:Fm}
def OkCode(P:Program)(E:Env):Code→Prop
 |.skip|.label _|.exit _|.ret|.refuse _=>True
 |.region _ ops _=>∀ o∈ops,OkOp P E o.op
 |.seq a b=>OkCode P E a∧OkCode P E b
 |.cond c a b=>OkX E c∧OkCode P E a∧OkCode P E b
 |.block _ b=>OkCode P E b
 |.loop b=>OkCode P E b
 |_=>False
def OkItem(P:Program)(E:Env):Item→Prop
 |.code c=>OkCode P E c
 |.inBlock _=>True
 |.inLoop c=>OkCode P E c
 |.inRegion ops _=>∀ o∈ops,OkOp P E o.op
 |_=>False
def bT(P:Program)(E:Env)(k:List Item):Prop:=∀ it∈k,OkItem P E it
def fr(fn:FuncId)(tmps:Array Value)(todo:List Item)(mode:FrameMode):Frame:={fn,tmps,todo,defers:=[],mode,kind:=.normal,roundOf:=none}
theorem bT.tail{it:Item}{k:List Item}(h:bT P E (it::k)):bT P E k:=fun x hx=>h x (List.mem_cons_of_mem _ hx)
theorem bT.head{it:Item}{k:List Item}(h:bT P E (it::k)):OkItem P E it:=h it (List.mem_cons_self ..)
theorem bT.cons{it:Item}{k:List Item}(h:OkItem P E it)(hk:bT P E k):bT P E (it::k):=fun x hx=>by
 rcases List.mem_cons.1 hx with rfl|hx
 ·exact h
 ·exact hk x hx
theorem bT.exit{id:Nat}:∀ {k k':List Item},bT P E k→exitTo id k=some k'→bT P E k'
 |[],_,_,h=>by cases h
 |it::k,k',h,hk=>by
  cases it with
  |inBlock id' =>
   simp only[exitTo]at hk;split at hk
   ·cases hk;exact h.tail
   ·exact h.tail.exit hk
  |_=>simp only[exitTo]at hk;exact h.tail.exit hk
inductive Mute (P:Program) (E:Env) (fn:FuncId) (tmps:Array Value):List Item→List Item→FrameMode→Prop
 |nil:Mute P E fn tmps [] [] .returning
 |ret {k:List Item}:Mute P E fn tmps (.code .ret::k) (.code .ret::k) .returning
 |skip {k:List Item}:Mute P E fn tmps (.code .skip::k) k .run
 |label {l:Nat} {k:List Item}:Mute P E fn tmps (.code (.label l)::k) k .run
 |inBlock {l:Nat} {k:List Item}:Mute P E fn tmps (.inBlock l::k) k .run
 |seq {a b:Code} {k:List Item}:Mute P E fn tmps (.code (.seq a b)::k) (.code a::.code b::k) .run
 |cond {c:Operand} {a b:Code} {k:List Item} {t:Bool} (h:(fr fn tmps (.code (.cond c a b)::k) .run).eval c=.bool t):Mute P E fn tmps (.code (.cond c a b)::k) (.code (if t then a else b)::k) .run
 |block {l:Nat} {b:Code} {k:List Item}:Mute P E fn tmps (.code (.block l b)::k) (.code b::.inBlock l::k) .run
 |loop {b:Code} {k:List Item}:Mute P E fn tmps (.code (.loop b)::k) (.code b::.inLoop b::k) .run
 |inLoop {b:Code} {k:List Item}:Mute P E fn tmps (.inLoop b::k) (.code b::.inLoop b::k) .run
 |exit {id:Nat} {k k':List Item} (h:exitTo id k=some k'):Mute P E fn tmps (.code (.exit id)::k) k' .run
 |region {id:Nat} {ops:Array Oper} {k:List Item}:Mute P E fn tmps (.code (.region id ops false)::k) (.inRegion ops (List.range ops.size)::k) .run
 |done {ops:Array Oper} {k:List Item}:Mute P E fn tmps (.inRegion ops []::k) k .run
theorem jc{main:Bool}{fn:FuncId}{tmps:Array Value}{k k':List Item}{m:FrameMode}{cs:List Frame}{w:World}(h:Mute P E fn tmps k k' m):stepG P main (G (fr fn tmps k .run) cs) w=.go (G (fr fn tmps k' m) cs) w #[]:=by
 cases h with
 |cond hc=>simp only[G,stepG,stepG.exec,fr]at hc⊢;rw[hc]
 |exit he=>simp[G,stepG,stepG.exec,fr,he]
 |_=>simp[G,stepG,stepG.exec,fr]
theorem mute_ok{fn:FuncId}{tmps:Array Value}{k k':List Item}{m:FrameMode}(h:Mute P E fn tmps k k' m)(hk:bT P E k):bT P E k':=by
 cases h with
 |nil=>exact hk
 |ret=>exact hk
 |skip=>exact hk.tail
 |label=>exact hk.tail
 |inBlock=>exact hk.tail
 |seq=>exact .cons hk.head.1 (.cons hk.head.2 hk.tail)
 |@cond c a b k t hc=>cases t;exact .cons hk.head.2.2 hk.tail;exact .cons hk.head.2.1 hk.tail
 |block=>exact .cons hk.head (.cons trivial hk.tail)
 |loop=>exact .cons hk.head (.cons hk.head hk.tail)
 |inLoop=>exact .cons hk.head hk
 |exit he=>exact hk.tail.exit he
 |region=>exact .cons hk.head hk.tail
 |done=>exact hk.tail
theorem mute_rel{fn:FuncId}{tmps tmps':Array Value}{k k':List Item}{m:FrameMode}(ha:AR E.ok f tmps tmps')(hk:bT P E k)(h:Mute P E fn tmps k k' m):Mute P E fn tmps' k k' m:=by
 cases h with
 |@cond c a b k t hc =>
  refine .cond ?_;have:=ev_rel (E:=E) (fr:=fr fn tmps (.code (.cond c a b)::k) .run) (fr':=fr fn tmps' (.code (.cond c a b)::k) .run) ha c hk.head.1;rw[hc]at this;generalize (fr fn tmps' (.code (.cond c a b)::k) .run).eval c=v at this⊢;cases this;rfl
 |exit he=>exact .exit he
 |_=>constructor
theorem lone_cases{main:Bool}{fn:FuncId}{tmps:Array Value}{k:List Item}{cs:List Frame}{w:World}{g2:Goroutine}{w2:World}{es:Array Event}(hk:bT P E k)(h:stepG P main (G (fr fn tmps k .run) cs) w=.go g2 w2 es) :
 (∃k' m,Mute P E fn tmps k k' m)∨(∃id ops k',k=.code (.region id ops true)::k')∨(∃ops i rest k',k=.inRegion ops (i::rest)::k'):=by
 cases k with
 |nil=>exact .inl ⟨_,_,.nil⟩
 |cons it k =>
  cases it with
  |code c =>
   cases c with
   |skip=>exact .inl ⟨_,_,.skip⟩
   |label l=>exact .inl ⟨_,_,.label⟩
   |ret=>exact .inl ⟨_,_,.ret⟩
   |seq a b=>exact .inl ⟨_,_,.seq⟩
   |block l b=>exact .inl ⟨_,_,.block⟩
   |loop b=>exact .inl ⟨_,_,.loop⟩
   |region id ops d =>
    cases d with
    |false=>exact .inl ⟨_,_,.region⟩
    |true=>exact .inr (.inl ⟨_,_,_,rfl⟩)
   |cond c a b =>
    left
    cases hc:(fr fn tmps (.code (.cond c a b)::k) .run).eval c with
    |bool t=>exact⟨_,_,.cond hc⟩
    |_ =>
     simp only[G,stepG,stepG.exec,fr]at h hc;rw[hc]at h;cases h
   |exit id =>
    left
    cases he:exitTo id k with
    |some k'=>exact⟨_,_,.exit he⟩
    |none =>
     simp[G,stepG,stepG.exec,fr,he]at h
   |refuse why=>simp[G,stepG,stepG.exec,fr]at h
   |_=>exact hk.head.elim
  |inBlock l=>exact .inl ⟨_,_,.inBlock⟩
  |inLoop b=>exact .inl ⟨_,_,.inLoop⟩
  |inRegion ops l =>
   cases l with
   |nil=>exact .inl ⟨_,_,.done⟩
   |cons i rest=>exact .inr (.inr ⟨_,_,_,_,rfl⟩)
  |_=>exact hk.head.elim
end Co
