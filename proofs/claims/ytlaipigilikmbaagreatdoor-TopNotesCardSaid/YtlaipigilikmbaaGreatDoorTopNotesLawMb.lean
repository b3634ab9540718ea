/- Proved: the law TopNotes: a record in two slots is always one of its records, wherever a write breaks off. It returns true at every input of the form's reach, whatever goroutines run on the way, and every argument reads afterwards as it read before. No further condition. -/
import Derived.Test.YtlaipigilikmbaaGreatDoorNoteLMb
import Derived.Test.YtlaipigilikmbaaGreatDoorMb42
import Derived.Test.YtlaipigilikmbaaGreatDoorRows
import Derived.ShutString
import Derived.ChangeOld
import Derived.Test.YtlaipigilikmbaaGreatDoorCards
import Derived.Test.YtlaipigilikmbaaGreatDoorTie
import Derived.SevenTiedAt
set_option linter.unusedVariables false
namespace Go.Proofs.YtlaipigilikmbaaGreatDoor.topNotesLaw
open Go.ChangeShapes Go.WideShapes Go.ChangeAt Go.RowKit
open Go Go.Conc Go.Proofs Go.Proofs.YtlaipigilikmbaaGreatDoor Go.Proofs.YtlaipigilikmbaaGreatDoor.Co Go.Proofs.YtlaipigilikmbaaGreatDoor.Cl Go.Proofs.YtlaipigilikmbaaGreatDoor.NoteW
theorem body:Tryz.f3.body=some (kE 0):=by kernel_rfl
set_option maxRecDepth 100000 in
theorem lifted(os:Os)(started:os.Started)(H:Type)(enc:TypeId×Value→H) :
 ReturnsInLeavingWide {} Tryz.checked os 3 .any (fun w args=>(Rows.topNotesSpec.pre enc Tryz.prog Tryz.f3 [] false w args∧laidMetH Tryz.prog Rows.topNotesRow.laid w)∧sizedMet enc Tryz.prog Tryz.f3 (OpenSpec.ofChange Rows.topNotesSpec) false w args) (Rows.topNotesSpec.post enc Tryz.prog Tryz.f3 false true false false):=by
 refine leaving_laid (C:=Tryz.checked) (X:=fun w _=>laidMetH Tryz.prog Rows.topNotesRow.laid w) (fun _ _ _ hh h=>h.of_heap hh) own started Tryz.func3
  (ChangeSpec.witness_at (enc:=enc) (C:=Tryz.checked) (os:=os) (X:=fun w _=>laidMetH Tryz.prog Rows.topNotesRow.laid w) false (laidWorld os) #[.slice none 0 0,.slice none 0 0] 8 rfl (by kernel_rfl) (by kernel_rfl) (by kernel_rfl) (by kernel_rfl) (by kernel_rfl) (laidWorld_met os _)) ?_
 intro W base args ds gs before hval0 hW hsz0 hlaid hsh htape τ d;have hsz:(DataW.weightsEach Tryz.prog (Tryz.f3.params.toList++Rows.topNotesSpec.plain.varTypes Tryz.prog) (ds++gs)).all (·≤reachBytes)=true:=hsz0;have hE:=handle_of_laid hlaid;have hval:∀ (j:Nat) t v,Tryz.f3.params[j]? = some t→args[j]? = some v→Value.okWide Tryz.prog W .any base t v:=hval0;have hsh':W.ShapedOpen Tryz.prog:=hsh;have hW':=hW;obtain⟨p,q,hA0,hV,rfl,hfz,hnd⟩:=hW;have hA:DataW.TrodAll enc Tryz.prog W 0 (fun _=>true) true Tryz.f3.params.toList args.toList ds p:=hA0;rw[Tryz.params3]at hA hval;obtain⟨v0,vs0,d0,ds0,p0,q0,hargs,rfl,rfl,h0,r0⟩:=trodAll_cons hA;obtain⟨v1,vs1,d1,ds1,p1,q1,rfl,rfl,rfl,h1,r1⟩:=trodAll_cons r0;obtain⟨rfl,rfl,rfl⟩:=trodAll_nil r1
 obtain rfl:args=#[v0,v1]:=by cases args;simp_all
 obtain⟨rfl,rfl⟩:=trodVars_none hV;have k0:=h0
 have lt0:∀ x∈p0,x.block<W.heap.size:=by obtain⟨m,hm⟩:=k0;exact DataW.trod_lt m _ _ _ hm
 obtain⟨ls,hbT,hsl⟩:=RecW.open_batches (hval 0 22 v0 rfl rfl) h0
 obtain⟨A,L,cp,rfl⟩:∃ A n c,v0=.slice A n c:=by obtain⟨A,c,e,-⟩:=hbT;exact⟨A,_,c,e⟩
 have k1:=h1
 have lt1:∀ x∈p1,x.block<W.heap.size:=by obtain⟨m,hm⟩:=k1;exact DataW.trod_lt m _ _ _ hm
 obtain⟨C,m,cq,xs,rfl,hxl,hLm,htold,hrd,hbd⟩:=open_ints_l Tryz.underlying23 Tryz.underlying3 (by kernel_rfl) (hval 1 23 v1 rfl rfl) h1
 have hls:ls.length≤140737488355328:=by
  rcases hsl with h|⟨el,sp,rfl,h⟩
  ·omega
  ·have h9:=sized_slice hsz (j:=0) (t:=22) (elems:=el) (spare:=sp) rfl rfl Tryz.underlying22;rw[show Tryz.prog.bytesOf 27=24 from by kernel_rfl]at h9;simp only[reachBytes]at h9;omega
 clear hA0 hval0 hsz0 hsz hsl;obtain⟨hLl,hLc,hcm,A0,e0,hrb⟩:=RecW.lw_rdb (G:=Tryz.prog.globals.size) hbT;obtain⟨C0,e1,hrC,-⟩:=lw_rd (G:=Tryz.prog.globals.size) (n:=m) (c:=cq) htold hrd (fun v hv=>by obtain⟨x,-,rfl⟩:=List.mem_map.1 hv;exact⟨_,_,rfl⟩)
 have hm:(#[.slice A L cp,.slice C m cq]:Array Value).map (clA Tryz.prog.globals.size W)=#[.slice A0 L cp,.slice C0 m cq]:=by
  simp only[List.map_toArray,List.map_cons,List.map_nil];rw[show clA Tryz.prog.globals.size W (.slice A L cp)=_ from e0,show clA Tryz.prog.globals.size W (.slice C m cq)=_ from e1]
 refine law_wins (P:=Tryz.prog) (ok:=fun i=>okL.contains i) (c:=kE 0) noteF body ?_ τ d;rw[hm];refine note1 (A:=A0) (L:=L) (cp:=cp) (ls:=ls) (C:=C0) (m:=m) (cq:=cq) (xs:=xs) (law_ok hsh' _ _) (fun _ _ h=>h) hE (fun w ho hlo hst=>?_) hLl (by omega) hxl hbd hrb hrC (by simp[Tryz.ntmps3]) (by simp) (by simp)
 have bel:Below W.heap.size W w.blind:=by
  refine⟨hst.1,htape.symm,hst.2,?_,ho⟩;rcases Nat.eq_zero_or_pos W.heap.size with h|h
  ·omega
  ·have:W.heap.size-1<w.heap.size:=hlo _ (by omega);show W.heap.size≤w.heap.size;omega
 exact⟨_,_,_,[],_,[],hW',trodAll_mk1 (shut_bool Tryz.underlying4 _),(trodAll_cons_mk (Below.trod laidOut (by kernel_rfl) (of_decide_eq_true (by kernel_rfl)) k0 bel lt0) (trodAll_cons_mk (Below.trod laidOut (by kernel_rfl) (of_decide_eq_true (by kernel_rfl)) k1 bel lt1) trodAll_mk0)),rfl,bel.frame _,fun h=>by cases h⟩
theorem over:Rows.topNotesRow.holds Tryz.pinned (OpenSpec.ofChange Rows.topNotesSpec) :=
 OpenClaim.holds_of_wide_leaving 3 Tryz.f3 rfl rfl rfl rfl rfl rfl rfl ⟨rfl,rfl,rfl,rfl,rfl⟩ rfl rfl rfl rfl rfl (by kernel_rfl) Tryz.func3 (by kernel_rfl)
  (of_decide_eq_true (by kernel_rfl)) (by unfold Func.isWrapper;first|(rw[if_pos (by decide +kernel)];kernel_rfl)|(rw[if_neg (by decide +kernel)];exact⟨rfl,rfl⟩))
  (fun os started H enc _=>lifted os started H enc)
theorem proved:Rows.TopNotesCardSaid :=
 holds_tied_goes .later [.handle] true Rows.topNotesCard.stood.harness true
  over (by kernel_rfl) topNotes_row_tie rfl ⟨rfl,rfl⟩ (by kernel_rfl) rfl
  (fun f fn hf hfn=>by
   obtain rfl:f=3:=Option.some.inj ((show Tryz.prog.funcNamed "granary/granarytop.TopNotes"=some 3 by kernel_rfl).symm.trans hf) |>.symm;obtain rfl:fn=Tryz.f3:=(Option.some.inj (Tryz.func3.symm.trans hfn)).symm
   exact⟨by kernel_rfl,fun j t ht=>by
    rw[Tryz.params3]at ht;rcases j with _|j
    ·obtain rfl:t=22:=by simpa using ht.symm
     exact(show Tryz.prog.wantsStandIn 22=false by kernel_rfl)
    rcases j with _|j
    ·obtain rfl:t=23:=by simpa using ht.symm
     exact(show Tryz.prog.wantsStandIn 23=false by kernel_rfl)
    simp at ht⟩)
  (by kernel_rfl)
#print axioms proved
end Go.Proofs.YtlaipigilikmbaaGreatDoor.topNotesLaw
