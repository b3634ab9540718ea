/- Texts of this seat,put together: Open,LwLift,LwOpen,LwForm,LwFnd,LwSlot0,LwR0,LwLaw. -/
import Derived.Test.YtlaipigilikmbaaGreatDoorMb1
import Derived.ProofKit
import Derived.OpenShut
import Derived.Carry
import Derived.SizedLaws
import Derived.Lib.SmallJoins
import Derived.Test.YtlaipigilikmbaaGreatDoorMb29
import Derived.Conc.LeavingOf
import Derived.Test.YtlaipigilikmbaaGreatDoorChecked
import Derived.WalkLawsBesides
import Derived.Outline
import Derived.BigQuiet
import Derived.Deep.QuietTactic
import Derived.BigRegion
import Derived.Test.YtlaipigilikmbaaGreatDoorMb14
set_option linter.unusedVariables false
set_option linter.unusedSimpArgs false
namespace Go.Proofs.YtlaipigilikmbaaGreatDoor
open Go.ChangeShapes Go.WideShapes Go.ChangeAt Go.RowKit Go.Deep Go.Joins

section
variable {H:Type} {enc:TypeId × Value→H} {P:Program} {W:World} {t8:TypeId}

end
end Go.Proofs.YtlaipigilikmbaaGreatDoor

namespace Go.Proofs.YtlaipigilikmbaaGreatDoor.Cl
open Go Go.Conc Go.Proofs.YtlaipigilikmbaaGreatDoor.Co Go.Proofs.YtlaipigilikmbaaGreatDoor.Ph Go.Proofs Go.Proofs.YtlaipigilikmbaaGreatDoor Go.RowKit
def told (W:World) (b:Nat):Prop:=∃ c e fz,W.heap[b]? = some (.cells c e fz)
theorem told_lt {W:World} {b:Nat} (h:told W b):b < W.heap.size:=by
  obtain ⟨c,e,fz,h⟩:=h
  exact (Array.getElem?_eq_some_iff.1 h).1
open Classical in
noncomputable def fmL (G:Nat) (W:World):Fm:=fun r=>if G ≤ r∧told W (r - G) then some (r - G) else none
theorem fmL_told {G:Nat} {W:World} {b:Nat} (h:told W b):fmL G W (G + b) = some b:=by
  unfold fmL
  rw [if_pos ⟨Nat.le_add_right _ _,by rwa [Nat.add_sub_cancel_left]⟩,Nat.add_sub_cancel_left]
theorem fmL_some {G:Nat} {W:World} {r x:Nat} (h:fmL G W r = some x):r = G + x∧told W x:=by
  unfold fmL at h
  split at h
  · rename_i h1
    cases h
    exact ⟨by omega,h1.2⟩
  · cases h
open Classical in
noncomputable def clV (G:Nat) (W:World):Value→Value
  | .int k n=>.int k n
  | .slice none n c=>.slice none n c
  | .slice (some a) n c=>if told W a.block then .slice (some ⟨G + a.block,a.off,a.spot⟩) n c else if n = 0∧c = 0 then .slice (some a) 0 0 else .tuple #[]
  | v=>Classical.choose (junk_ex _ v (Nat.le_refl _))
open Classical in
theorem clV_slice (G:Nat) (W:World) (a:Addr) (n c:Nat):clV G W (.slice (some a) n c) = if told W a.block then (Value.slice (some ⟨G + a.block,a.off,a.spot⟩) n c) else if n = 0∧c = 0 then Value.slice (some a) 0 0 else Value.tuple #[]:=rfl
theorem clV_rel (ok:FuncId→Bool) (G:Nat) (W:World) (v:Value):VR ok (fmL G W) (clV G W v) v:=by
  unfold clV
  split
  · exact .int _ _
  · exact .sliceN _ _
  · rename_i a n c
    obtain ⟨b,o,s⟩:=a
    split
    · rename_i h
      exact .slice (fmL_told h)
    · split
      · rename_i h
        obtain ⟨rfl,rfl⟩:=h
        exact .slice0 _ _
      · exact .wild ⟨(fun _ h=>by cases h),(fun _ h=>by cases h),(fun _ h=>by cases h)⟩
  · exact Classical.choose_spec (junk_ex _ v (Nat.le_refl _)) ok _
noncomputable def clA (G:Nat) (W:World):Value→Value
  | .agg xs=>.agg (xs.map (clV G W))
  | v=>clV G W v
theorem ar_cl (ok:FuncId→Bool) (G:Nat) (W:World) (c:Array Value):AR ok (fmL G W) (c.map (clV G W)) c:=⟨by simp,fun i u u' h1 h2=>by
  rw [Array.getElem?_map,h2] at h1
  cases h1
  exact clV_rel ok G W u'⟩
theorem clA_rel (ok:FuncId→Bool) (G:Nat) (W:World) (v:Value):VR ok (fmL G W) (clA G W v) v:=by
  unfold clA
  split
  · exact (ar_cl ok G W _).agg
  · exact clV_rel ok G W v
noncomputable def clO (G:Nat) (W:World):Obj→Obj
  | .cells c e fz=>.cells (c.map (clV G W)) e (0,c.size + fz.2)
  | _=>.cells #[] 0 (0,0)
noncomputable def lwW (G:Nat) (W:World):World:={ (default:World) with heap:=Array.replicate G (.cells #[] 0 (0,0)) ++ W.heap.map (clO G W) }
theorem lwW_at {G:Nat} {W:World} {b:Nat} {c:Array Value} {e:TypeId} {fz:Nat × Nat} (h:W.heap[b]? = some (.cells c e fz)):(lwW G W).heap[G + b]? = some (.cells (c.map (clV G W)) e (0,c.size + fz.2)):=by
  unfold lwW
  rw [Array.getElem?_append_right (by simp)]
  simp [h,clO]
theorem lwW_gl {G:Nat} {W:World} {r:Nat} (h:r < G):(lwW G W).heap[r]? = some (.cells #[] 0 (0,0)):=by
  unfold lwW
  rw [Array.getElem?_append_left (by simpa using h),Array.getElem?_replicate,if_pos h]
theorem lwW_size (G:Nat) (W:World):(lwW G W).heap.size = G + W.heap.size:=by simp [lwW]
theorem lwW_cell {G:Nat} {W:World} {b o:Nat} {v:Value} (h:W.cell? ⟨b,o,none⟩ = some v):told W b∧(lwW G W).cell? ⟨G + b,o,none⟩ = some (clV G W v):=by
  unfold World.cell? at h
  cases hb:W.heap[b]? with
  | none=>simp [hb] at h
  | some ob =>
    rw [hb] at h
    cases ob with
    | cells c e fz =>
      refine ⟨⟨c,e,fz,hb⟩, ?_⟩
      unfold World.cell?
      simp only [lwW_at hb]
      have h:c[o]? = some v:=by simpa using h
      simp [h]
    | _=>simp at h
theorem lwW_rel {G:Nat} (W:World) (ok:FuncId→Bool):WR ⟨ok,told W,G⟩ (fmL G W) (Co.re (lwW G W) W.tape W.drawn) W:=by
  refine ⟨rfl,rfl,fun r r' h=>?_,fun r s x h1 h2=>?_,fun r r' o h1 h2 h3=>?_,fun x h1 h2=>?_,fun r r' h=>?_,fun r hr=>⟨0,lwW_gl hr⟩, ?_⟩
  · obtain ⟨rfl,c,e,fz,hb⟩:=fmL_some h
    exact ⟨_,_,lwW_at hb,hb,.cells (ar_cl ok G W c) fun o h1 h2=>⟨Nat.zero_le _,by omega⟩⟩
  · rw [(fmL_some h1).1,(fmL_some h2).1]
  · obtain ⟨rfl,c,e,fz,hb⟩:=fmL_some h1
    have h3:(lwW G W).heap[G + r']? = some o:=h3
    rw [lwW_at hb] at h3
    cases h3
    exact ⟨_,_,_,rfl,rfl,by simp⟩
  · have:=told_lt h2
    omega
  · rw [(fmL_some h).1]
    exact Nat.le_add_right _ _
  · show _ ≤ (lwW G W).heap.size
    rw [lwW_size]
    exact Nat.le_add_right _ _
theorem lwW_side {G:Nat} (W:World) (ok:FuncId→Bool):Side ⟨ok,told W,G⟩ (fun x=>x < W.heap.size) W (fun _=>False) (fmL G W) W :=
  ⟨fun _ _=>rfl,fun x h=>h,fun x hx=>by
    obtain ⟨⟨r,h⟩,h2⟩:=hx
    exact absurd (fmL_some h).2 h2,fun x h=>h.elim,fun x h=>⟨told_lt h,id⟩,Nat.le_refl _,rfl,rfl⟩
theorem lw_slice {G:Nat} {W:World} (A:Option Addr) (n c:Nat) (h:∀ a,A = some a→told W a.block ∨ n = 0∧c = 0):∃ A0,clV G W (.slice A n c) = .slice A0 n c∧∀ a,A = some a→told W a.block→A0 = some ⟨G + a.block,a.off,a.spot⟩:=by
  cases A with
  | none=>exact ⟨none,rfl,fun a e=>by cases e⟩
  | some a =>
    by_cases ht:told W a.block
    · refine ⟨_,by rw [clV_slice,if_pos ht],fun a' e _=>by cases e; rfl⟩
    · obtain ⟨rfl,rfl⟩:=(h a rfl).resolve_left ht
      exact ⟨some a,by rw [clV_slice,if_neg ht,if_pos ⟨rfl,rfl⟩],fun a' e h2=>by cases e; exact absurd h2 ht⟩
theorem lw_pg {G:Nat} {W:World} {v:Value} {l:List UInt8} (h:PgAt W v l):PgAt (lwW G W) (clV G W v) l:=by
  cases h with
  | nil=>exact .nil
  | zero a =>
    obtain ⟨A0,h1,-⟩:=lw_slice (G:=G) (W:=W) (some a) 0 0 fun _ _=>.inr ⟨rfl,rfl⟩
    rw [h1]
    cases A0 with
    | none =>
      rw [clV_slice] at h1
      split at h1
      · cases h1
      · rw [if_pos ⟨rfl,rfl⟩] at h1; cases h1
    | some b=>exact .zero b
  | @row b off n c l cs e fz hn h0 hc hm hb hl =>
    have ht:told W b:=⟨_,_,_,hb⟩
    have:clV G W (.slice (some ⟨b,off,none⟩) n c) = .slice (some ⟨G + b,off,none⟩) n c:=by rw [clV_slice,if_pos ht]
    rw [this]
    refine .row hn h0 hc hm (lwW_at hb) fun i x hx=>?_
    rw [Array.getElem?_map,hl i x hx]
    rfl
theorem lw_args {G:Nat} {W:World} {A:Option Addr} {L cp:Nat} {pg:Nat→List UInt8} (hz:∀ a,A = some a→told W a.block ∨ L = 0∧cp = 0) (h:LArgs W A L pg):∃ A0,clV G W (.slice A L cp) = .slice A0 L cp∧LArgs (lwW G W) A0 L pg:=by
  obtain ⟨A0,h1,h2⟩:=lw_slice (G:=G) A L cp hz
  refine ⟨A0,h1,fun k hk=>?_⟩
  obtain ⟨b,off,pv,rfl,e2,e3⟩:=h k hk
  obtain ⟨q1,q2⟩:=lwW_cell (G:=G) e2
  exact ⟨G + b,off,_,h2 _ rfl q1,q2,lw_pg e3⟩
theorem law_wins {P:Program} {Q:Value→World→Prop} {W:World} {ok:FuncId→Bool} {fn:FuncId} {F:Func} {c:Code} {args:Array Value} (hF:P.funcs[fn]? = some F) (hb:F.body = some c)
    (h:WinsR P Q ⟨ok,told W,P.globals.size⟩ (fun x=>x < W.heap.size) W (fun _=>False) [] fn (args.map (clA P.globals.size W) ++ Array.replicate (F.ntmps - args.size) undef) [.code c] .run (lwW P.globals.size W)) :
    ∀ τ d,Ended P Q (solo (G (Frame.enter P fn args .normal) []) (Co.re W τ d)) #[]:=by
  intro τ d
  have hw:Wins P Q (fun _=>False) (G (Frame.enter P fn args .normal) []) W:=by
    rw [Go.Conc.enter_at args hF hb]
    refine h (fmL P.globals.size W) _ W ?_ (lwW_rel W ok) (lwW_side W ok)
    refine AR.append ⟨by simp,fun i u u' h1 h2=>?_⟩ (AR.flat fun u hu=>by obtain ⟨-,rfl⟩:=Array.mem_replicate.1 hu; exact undef_flat)
    rw [Array.getElem?_map,h2] at h1
    cases h1
    exact clA_rel ok _ W u'
  have hp:=past_nil
  refine hw #[G (Frame.enter P fn args .normal) []] none #[] (fun _=>0) τ d rfl ⟨fun i g h0 hi=>?_,fun j hj=>rfl⟩ ⟨hp.clean,fun i a hi=>?_,hp.over,hp.hears,fun op h=>by simp at h⟩
  · have:=(Array.getElem?_eq_some_iff.1 hi).1
    simp at this
    omega
  · rcases hp.known i a hi with h
    intro hm
    rcases h hm with h1 | h1
    · exact .inl h1
    · exact h1.1.elim
end Go.Proofs.YtlaipigilikmbaaGreatDoor.Cl

namespace Go.Proofs.YtlaipigilikmbaaGreatDoor.Cl
open Go.ChangeShapes Go.WideShapes Go.ChangeAt Go.RowKit Go.Deep Go.Joins
open Go Go.Conc Go.Proofs.YtlaipigilikmbaaGreatDoor.Co Go.Proofs.YtlaipigilikmbaaGreatDoor.Ph Go.Proofs Go.Proofs.YtlaipigilikmbaaGreatDoor
theorem told_cell {W:World} {b o:Nat} {v:Value} (h:W.cell? ⟨b,o,none⟩ = some v):told W b:=(lwW_cell (G:=0) h).1
section
variable {H:Type} {enc:TypeId × Value→H} {P:Program} {W:World}
theorem open_page {t e:TypeId} {fuel:Nat} {cs:List Value} {x:DataW H × List MemPlace} (ht:P.underlying t = some (.slice e)) (he:P.underlying e = some (.int .u8)) (hc:P.cellsOf e = 1)
    (hf:DataW.trod enc P W 0 (fun _=>true) true fuel t cs = some x):∃ (pv:Value) (l:List UInt8),cs = [pv]∧PgAt W pv l:=by
  rcases open_ints ht he hc hf with ⟨rfl,_⟩ | ⟨a,len,cap,zs,rfl,_,hl,hm,hz,hx,hcell,hwz⟩
  · exact ⟨_,[],rfl,.nil⟩
  · have hzl:zs.length = cap:=by simpa using hz
    rcases Nat.eq_zero_or_pos cap with h0 | h0
    · obtain rfl:len = 0:=by omega
      subst h0
      exact ⟨_,[],rfl,.zero a⟩
    · obtain ⟨b,off,spot⟩:=a
      have hc0:=hcell 0 (by omega)
      have hspot:spot = none:=by simpa [Addr.add] using World.cell?_spot hc0
      subst hspot
      rw [Addr.add_lit] at hc0
      obtain ⟨c,el,fz,hb⟩:=told_cell hc0
      refine ⟨_,(zs.take len).map fun z=>UInt8.ofNat z.toNat,rfl,.row (by simp; omega) h0 hl (by simp only [maxLen] at hm; omega) hb fun i u hu=>?_⟩
      have hi:i < len:=by
        have:=(List.getElem?_eq_some_iff.1 hu).1
        simp only [List.length_map,List.length_take] at this
        omega
      have hci:=hcell i (by omega)
      rw [Addr.add_lit] at hci
      unfold World.cell? at hci
      simp only [hb] at hci
      have hci:c[off + i]? = some (.int .u8 (zs.getD i 0)):=by simpa using hci
      rw [hci]
      have hwf:=hwz (zs.getD i 0) (by rw [List.getD_eq_getElem?_getD,List.getElem?_eq_getElem (by omega)]; simp)
      have hbd:0 ≤ zs.getD i 0∧zs.getD i 0 ≤ 255:=bounds_u8 hwf
      simp only [List.getElem?_map,List.getElem?_take,if_pos hi,List.getElem?_eq_getElem (show i < zs.length by omega),Option.map_some,Option.some.injEq] at hu
      rw [← hu]
      have e:zs.getD i 0 = zs[i]'(by omega):=by simp [List.getD,show i < zs.length by omega]
      rw [e] at hbd ⊢
      congr 2
      rw [UInt8.toNat_ofNat']
      omega
theorem open_pages {r:Reach} {b0:Nat} {tt t e:TypeId} {v:Value} {d:DataW H} {p:List MemPlace} (htt:P.underlying tt = some (.slice t)) (ht:P.underlying t = some (.slice e)) (he:P.underlying e = some (.int .u8)) (hc:P.cellsOf e = 1) (hc1:P.cellsOf t = 1)
    (hval:Value.okWide P W r b0 tt v) (h:DataW.Trod enc P W 0 (fun _=>true) true tt v d p) :
    ∃ (A:Option Addr) (L cp:Nat) (pg:Nat→List UInt8),v = .slice A L cp∧L ≤ cp∧cp ≤ maxLen∧(∀ a,A = some a→told W a.block ∨ L = 0∧cp = 0)∧(A = none→L = 0∧cp = 0)∧LArgs W A L pg:=by
  obtain ⟨a0,len0,cap0,rfl⟩:=okWide_slice htt hval
  obtain ⟨fuel,hf⟩:=h
  rcases open_slice htt hf with ⟨hcs,-⟩ | ⟨a,len,cap,m,n,D,Pl,hcs,-,hl,hm,hmm,hx,hi⟩
  · simp [Value.cells] at hcs
    obtain ⟨rfl,rfl,rfl⟩:=hcs
    exact ⟨none,0,0,fun _=>[],rfl,Nat.le_refl _,Nat.zero_le _,(fun a e=>by cases e),fun _=>⟨rfl,rfl⟩,fun k hk=>by omega⟩
  · simp [Value.cells] at hcs
    obtain ⟨rfl,rfl,rfl⟩:=hcs
    simp only [if_true] at hmm
    subst hmm
    have key:∀ i,∃ q:Value × List UInt8,i < m→W.cell? (a.add i) = some q.1∧PgAt W q.1 q.2:=by
      intro i
      by_cases hlt:i < m
      · obtain ⟨cs',hcc,htt⟩:=hi i hlt
        rw [hc1] at hcc
        obtain ⟨_,hcl,hat⟩:=World.cells?_some hcc
        obtain ⟨pv,l,rfl,h1⟩:=open_page ht he hc htt
        have h4:=hat 0 (by omega)
        have e0:(a.add (i * 1 + 0)) = a.add i:=by rw [Nat.mul_one,Nat.add_zero]
        first | rw [e0] at h4 | (rw [Nat.mul_one] at h4; rw [show (a.add i).add 0 = a.add i from by simp [Addr.add]] at h4)
        exact ⟨(pv,l),fun _=>⟨by simpa using h4,h1⟩⟩
      · exact ⟨(undef,[]),fun h=>absurd h hlt⟩
    obtain ⟨f,hf'⟩:=Classical.axiomOfChoice key
    have hsp:0 < m→a.spot = none∧told W a.block:=fun h0=>by
      have hc0:=(hf' 0 h0).1
      obtain ⟨b,off,spot⟩:=a
      have hspot:spot = none:=by simpa [Addr.add] using World.cell?_spot hc0
      subst hspot
      rw [Addr.add_lit] at hc0
      exact ⟨rfl,told_cell hc0⟩
    refine ⟨some a,len0,m,fun i=>(f i).2,rfl,hl,hm,fun a' e=>?_,(fun e=>by cases e),fun k hk=>?_⟩
    · cases e
      rcases Nat.eq_zero_or_pos m with h0 | h0
      · exact .inr ⟨by omega,h0⟩
      · exact .inl (hsp h0).2
    · obtain ⟨b,off,spot⟩:=a
      obtain ⟨rfl,-⟩:=hsp (by omega)
      obtain ⟨h1,h2⟩:=hf' k (by omega)
      rw [Addr.add_lit] at h1
      exact ⟨b,off,_,rfl,h1,h2⟩
end
end Go.Proofs.YtlaipigilikmbaaGreatDoor.Cl

namespace Go
open Go.Conc
end Go
namespace Go.Proofs.YtlaipigilikmbaaGreatDoor.Cl
open Go Go.Conc Go.Proofs.YtlaipigilikmbaaGreatDoor.Co Go.Proofs.YtlaipigilikmbaaGreatDoor.Ph Go.Proofs Go.Proofs.YtlaipigilikmbaaGreatDoor Go.RowKit
def intsB:Obj→Bool
  | .cells c _ _=>c.all fun | .int _ _=>true | _=>false
  | _=>false
theorem co_ints {o:Obj} (h:intsB o = true) (E:Ev):CO E o:=by
  cases o with
  | cells c e fz =>
    refine .cells fun u hu=>?_
    simp only [intsB,Array.all_eq_true_iff_forall_mem] at h
    have:=h u hu
    cases u with
    | int k n=>exact .int k n
    | _=>cases this
  | _=>cases h
theorem begin_ty:(((begin Tryz.prog (fun _ _=>0) default).world.heap[Tryz.prog.globals.size]?).map intsB) = some true:=by kernel_rfl
theorem shaped_ty {W:World} (h:W.ShapedOpen Tryz.prog):Tryz.prog.globals.size < W.heap.size∧∀ E:Ev,∀ o,W.heap[Tryz.prog.globals.size]? = some o→CO E o:=by
  obtain ⟨o0,h1,h2⟩:=Option.map_eq_some_iff.1 begin_ty
  obtain ⟨o,o',k1,k2,k3⟩:=h.2 Tryz.prog.globals.size (Nat.le_refl _) (Array.getElem?_eq_some_iff.1 h1).1
  rw [Nat.sub_self,if_neg (by decide)] at k3
  subst k3
  rw [h1] at k2
  cases k2
  refine ⟨(Array.getElem?_eq_some_iff.1 k1).1,fun E o ho=>?_⟩
  rw [k1] at ho
  cases ho
  exact co_ints h2 E
theorem law_ok {W:World} (h:W.ShapedOpen Tryz.prog) (ok:FuncId→Bool) (ro:Nat→Prop):LawOk ⟨ok,ro,Tryz.prog.globals.size⟩ (fun x=>x < W.heap.size) W :=
  ⟨rfl,fun x hx=>Nat.lt_of_le_of_lt hx (shaped_ty h).1,(shaped_ty h).2⟩
end Go.Proofs.YtlaipigilikmbaaGreatDoor.Cl

namespace Go.Proofs.YtlaipigilikmbaaGreatDoor.LwW
open Go.RowKit
def RdF (w:World) (A:Option Addr) (n:Nat) (a p s k:Nat→Int):Prop:=∀ i,i < n→∃ b off,A = some ⟨b,off,none⟩∧w.cell? ⟨b,off + i * 4,none⟩ = some (.int .i64 (a i))∧w.cell? ⟨b,off + i * 4 + 1,none⟩ = some (.int .i64 (p i))∧w.cell? ⟨b,off + i * 4 + 2,none⟩ = some (.int .i64 (s i))∧w.cell? ⟨b,off + i * 4 + 3,none⟩ = some (.int .i64 (k i))
end Go.Proofs.YtlaipigilikmbaaGreatDoor.LwW

namespace Go.Proofs.YtlaipigilikmbaaGreatDoor
open Go
theorem slots_of (N:Nat) (t:Array Value) (h:t.size = N):t = Array.ofFn fun j:Fin N=>t.getD j.1 undef:=by
  subst h
  refine Array.ext (by simp) fun i h1 h2=>?_
  rw [Array.getElem_ofFn,Array.getD_eq_getD_getElem?,Array.getElem?_eq_getElem h1]
  rfl
theorem getD_of {t:Array Value} {i:Nat} {v:Value} (h:t[i]? = some v):t.getD i undef = v:=by
  rw [Array.getD_eq_getD_getElem?,h]
  rfl
end Go.Proofs.YtlaipigilikmbaaGreatDoor

namespace Go.Proofs.YtlaipigilikmbaaGreatDoor.Cl
open Go Go.RowKit
def HB (a b:Array Obj):Prop:=a.size ≤ b.size∧∀ k,k < a.size→b[k]? = a[k]?
theorem HB.refl (a:Array Obj):HB a a:=⟨Nat.le_refl _,fun _ _=>rfl⟩
theorem HB.trans {a b c:Array Obj} (h:HB a b) (k:HB b c):HB a c:=⟨Nat.le_trans h.1 k.1,fun i hi=>(k.2 i (Nat.lt_of_lt_of_le hi h.1)).trans (h.2 i hi)⟩
theorem HB.of {w w':World} (h:Below w.heap.size w w'):HB w.heap w'.heap:=⟨h.size,h.block⟩
def hW (h:Array Obj):World:={ (default:World) with heap:=h }
def Kp (N:Nat) (S:List Nat) (u:Nat→Value) (t:Array Value):Prop:=t.size = N∧∀ s ∈ S,t[s]? = some (u s)
def RX (N:Nat) (d:Nat) (v:Value) (t:Array Value) (h:Array Obj):Prop:=t.size = N∧t[d]? = some v
end Go.Proofs.YtlaipigilikmbaaGreatDoor.Cl

namespace Go.Proofs.YtlaipigilikmbaaGreatDoor.Cl
open Go Go.Conc Go.Proofs.YtlaipigilikmbaaGreatDoor.Co Go.Proofs.YtlaipigilikmbaaGreatDoor.Ph Go.Proofs Go.Proofs.YtlaipigilikmbaaGreatDoor Go.RowKit Go.Proofs.YtlaipigilikmbaaGreatDoor.LwW Go.Proofs.YtlaipigilikmbaaGreatDoor.OpenW
section
variable {P:Program} {Q:Value→World→Prop} {E:Env} {K Z:Nat→Prop} {W:World} {cs:List Frame} {fn:FuncId} {t:Array Value} {todo k:List Item} {m:FrameMode} {w0 w:World} {f:Fm}
theorem lwp (hS:Sound P E) {R:Array Value→Array Obj→Prop} {c:Code} (hF:∃ F,P.funcs[fn]? = some F) (hc:Co.OkCode P E c)
    (h:∀ τ d,c.wp P (fun e a w'=>e = .normal∧R a.tmps w'.heap) ⟨t,[]⟩ (Co.re w0 τ d)) (hn:∀ t2 u,R t2 u.heap→WinsR P Q E K W Z cs fn t2 k .run u):WinsR P Q E K W Z cs fn t (.code c :: k) .run w0:=by
  refine winsR_piece hS (R:=fun x t h=>x = false∧R t h) hF hc (fun τ d=>?_) (fun t2 u h2=>hn t2 u h2.2) (fun t2 u todo h2=>by cases h2.1)
  refine Code.wp_mono (fun e a w1 h=>?_) (h τ d)
  obtain ⟨rfl,h⟩:=h
  exact ⟨rfl,h⟩
theorem lret (hS:Sound P E) {R:Array Value→Array Obj→Prop} {c:Code} (hF:∃ F,P.funcs[fn]? = some F) (hc:Co.OkCode P E c)
    (h:∀ τ d,c.wp P (fun e a w'=>e = .ret∧R a.tmps w'.heap) ⟨t,[]⟩ (Co.re w0 τ d)) (hn:∀ t2 u todo,R t2 u.heap→WinsR P Q E K W Z cs fn t2 todo .returning u):WinsR P Q E K W Z cs fn t (.code c :: k) .run w0:=by
  refine winsR_piece hS (R:=fun x t h=>x = true∧R t h) hF hc (fun τ d=>?_) (fun t2 u h2=>by cases h2.1) (fun t2 u todo h2=>hn t2 u todo h2.2)
  refine Code.wp_mono (fun e a w1 h=>?_) (h τ d)
  obtain ⟨rfl,h⟩:=h
  exact ⟨rfl,h⟩
end
theorem HB.cell {w w':World} (h:HB w.heap w'.heap) {a:Addr} {v:Value} (hv:w.cell? a = some v):w'.cell? a = some v:=by
  have hb:a.block < w.heap.size:=World.block_lt_of_cell? w _ hv
  unfold World.cell? at hv ⊢
  rw [h.2 _ hb]
  exact hv
theorem HB.pg {w w':World} (h:HB w.heap w'.heap) {v:Value} {l:List UInt8} (hp:PgAt w v l):PgAt w' v l:=by
  cases hp with
  | nil=>exact .nil
  | zero a=>exact .zero a
  | row a1 a2 a3 a4 hb a6=>exact .row a1 a2 a3 a4 (by rw [h.2 _ (Array.getElem?_eq_some_iff.1 hb).1]; exact hb) a6
theorem HB.args {w w':World} (h:HB w.heap w'.heap) {A:Option Addr} {L:Nat} {pg:Nat→List UInt8} (ha:LArgs w A L pg):LArgs w' A L pg:=fun k hk=>by
  obtain ⟨b,off,pv,e1,e2,e3⟩:=ha k hk
  exact ⟨b,off,pv,e1,h.cell e2,h.pg e3⟩
theorem HB.own {w w':World} (h:HB w.heap w'.heap) {base size n:Nat} {e:TypeId} {v:Value} {xs:List Value} (ho:w.ownsRow base e size v n xs):w'.ownsRow base e size v n xs:=by
  refine ⟨ho.1,ho.2.imp id ?_⟩
  rintro ⟨g,cap,cur,h1,h2,h3,h4⟩
  exact ⟨g,cap,cur,h1,h2,by rw [h.2 _ (Array.getElem?_eq_some_iff.1 h3).1]; exact h3,h4⟩
theorem HB.rd {w w':World} (h:HB w.heap w'.heap) {A:Option Addr} {xs:List Value} (hr:Rd w A xs):Rd w' A xs:=hr.keep h.2
theorem rdF_own {w:World} {base n c:Nat} {D:Option Addr} {S:Nat→Fnd} (h:w.ownsRow base 60 4 (.slice D n c) n (flatF S n)):RdF w D n (fun i=>(S i).lba) (fun i=>(S i).page) (fun i=>(S i).seq) (fun i=>(S i).kind):=by
  intro i hi
  rcases h.2 with ⟨hv,hn⟩ | ⟨g,cap,cur,hv,hb,hg,hnc,hm,hs,ht⟩
  · omega
  · injection hv with hA
    subst hA
    have hc:∀ j u,j < 4→[Value.int .i64 (S i).lba,.int .i64 (S i).page,.int .i64 (S i).seq,.int .i64 (S i).kind][j]? = some u→w.cell? ⟨g,0 + i * 4 + j,none⟩ = some u:=by
      intro j u hj hu
      have h1:=flatF_at S n i j hi u hu
      rw [← ht,List.getElem?_take,if_pos (by omega)] at h1
      unfold World.cell?
      simp only [hg,Nat.zero_add]
      simpa using h1
    exact ⟨g,0,rfl,hc 0 _ (by omega) rfl,hc 1 _ (by omega) rfl,hc 2 _ (by omega) rfl,hc 3 _ (by omega) rfl⟩
end Go.Proofs.YtlaipigilikmbaaGreatDoor.Cl
