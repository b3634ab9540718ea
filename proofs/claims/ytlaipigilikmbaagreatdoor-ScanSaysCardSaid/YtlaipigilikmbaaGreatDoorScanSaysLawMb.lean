/- Proved: the law ScanSays: what is newest on any pages, and their states, by any number of workers. It returns true at every input of the form's reach, whatever goroutines run on the way, and every argument reads afterwards as it read before. No further condition. -/
import Derived.Test.YtlaipigilikmbaaGreatDoorSaysLMb
import Derived.Test.YtlaipigilikmbaaGreatDoorLwLaidMb
import Derived.Test.YtlaipigilikmbaaGreatDoorRows
import Derived.ShutString
import Derived.ChangeOld
import Derived.Test.YtlaipigilikmbaaGreatDoorLaidMb
import Derived.Test.YtlaipigilikmbaaGreatDoorCards
import Derived.Test.YtlaipigilikmbaaGreatDoorTie
import Derived.SevenTiedAt
set_option linter.unusedVariables false
namespace Go.Proofs.YtlaipigilikmbaaGreatDoor.scanSaysLaw
open Go.ChangeShapes Go.WideShapes Go.ChangeAt Go.RowKit
open Go Go.Conc Go.Proofs Go.Proofs.YtlaipigilikmbaaGreatDoor Go.Proofs.YtlaipigilikmbaaGreatDoor.Co Go.Proofs.YtlaipigilikmbaaGreatDoor.Cl Go.Proofs.YtlaipigilikmbaaGreatDoor.SayW
theorem body:Tryz.f4.body = some (kE 0):=by kernel_rfl

set_option maxRecDepth 100000 in
theorem lifted (os:Os) (started:os.Started) (H:Type) (enc:TypeId × Value→H) :
    ReturnsInLeavingWide {} Tryz.checked os 4 .any (fun w args=>(Rows.scanSaysSpec.pre enc Tryz.prog Tryz.f4 [] false w args∧laidMetH Tryz.prog Rows.scanSaysRow.laid w)∧sizedMet enc Tryz.prog Tryz.f4 (OpenSpec.ofChange Rows.scanSaysSpec) false w args) (Rows.scanSaysSpec.post enc Tryz.prog Tryz.f4 false true false false):=by
  refine leaving_laid (C:=Tryz.checked) (X:=fun w _=>laidMetH Tryz.prog Rows.scanSaysRow.laid w) (fun _ _ _ hh h=>h.of_heap hh) own started Tryz.func4
    (ChangeSpec.witness_at (enc:=enc) (C:=Tryz.checked) (os:=os) (X:=fun w _=>laidMetH Tryz.prog Rows.scanSaysRow.laid w) false (laidWorld os) #[.slice none 0 0,.int .i64 0] 8 rfl (by kernel_rfl) (by kernel_rfl) (by kernel_rfl) (by kernel_rfl) (by kernel_rfl) (laidWorld_met os _)) ?_
  intro W base args ds gs before hval0 hW _ hlaid hsh htape τ d
  have hE:=handle_of_laid hlaid
  have hval:∀ (j:Nat) t v,Tryz.f4.params[j]? = some t→args[j]? = some v→Value.okWide Tryz.prog W .any base t v:=hval0
  have hsh':W.ShapedOpen Tryz.prog:=hsh
  have hW':=hW
  obtain ⟨p,q,hA0,hV,rfl,hfz,hnd⟩:=hW
  have hA:DataW.TrodAll enc Tryz.prog W 0 (fun _=>true) true Tryz.f4.params.toList args.toList ds p:=hA0
  rw [Tryz.params4] at hA hval
  obtain ⟨v0,vs0,d0,ds0,p0,q0,hargs,rfl,rfl,h0,r0⟩:=trodAll_cons hA
  obtain ⟨v1,vs1,d1,ds1,p1,q1,rfl,rfl,rfl,h1,r1⟩:=trodAll_cons r0
  obtain ⟨rfl,rfl,rfl⟩:=trodAll_nil r1
  obtain rfl:args = #[v0,v1]:=by cases args; simp_all
  obtain ⟨rfl,rfl⟩:=trodVars_none hV
  have k0:=h0
  have lt0:∀ x ∈ p0,x.block < W.heap.size:=by obtain ⟨m,hm⟩:=k0; exact DataW.trod_lt m _ _ _ hm
  obtain ⟨A,L,cp,pg,rfl,hL1,hL2,htold,hnil,hLA⟩:=open_pages Tryz.underlying43 Tryz.underlying25 Tryz.underlying5 (by kernel_rfl) (by kernel_rfl) (hval 0 43 v0 rfl rfl) h0
  have k1:=h1
  have lt1:∀ x ∈ p1,x.block < W.heap.size:=by obtain ⟨m,hm⟩:=k1; exact DataW.trod_lt m _ _ _ hm
  obtain ⟨x1,rfl,hx1,-,w1⟩:=open_int Tryz.underlying3 (hval 1 3 v1 rfl rfl) h1
  clear hA0 hval0
  obtain ⟨A0,e0,hA1⟩:=lw_args (G:=Tryz.prog.globals.size) htold hLA
  have hm:(#[.slice A L cp,.int .i64 x1]:Array Value).map (clA Tryz.prog.globals.size W) = #[.slice A0 L cp,.int .i64 x1]:=by
    simp only [List.map_toArray,List.map_cons,List.map_nil]
    rw [show clA Tryz.prog.globals.size W (.slice A L cp) = _ from e0]
    rfl
  refine law_wins (P:=Tryz.prog) (ok:=fun i=>okL.contains i) (c:=kE 0) sayF body ?_ τ d
  rw [hm]
  refine say1 (A:=A0) (L:=L) (cp:=cp) (pg:=pg) (z:=x1) (law_ok hsh' _ _) (fun _ _ h=>h) hE (fun w ho hlo hst=>?_) hA1 (by simp [Tryz.ntmps4]) (by simp) (by simp)
  have bel:Below W.heap.size W w.blind:=by
    refine ⟨hst.1,htape.symm,hst.2, ?_,ho⟩
    rcases Nat.eq_zero_or_pos W.heap.size with h | h
    · omega
    · have:W.heap.size - 1 < w.heap.size:=hlo _ (by omega)
      show W.heap.size ≤ w.heap.size
      omega
  exact ⟨_,_,_,[],_,[],hW',trodAll_mk1 (shut_bool Tryz.underlying4 _),(trodAll_cons_mk (Below.trod laidOut (by kernel_rfl) (of_decide_eq_true (by kernel_rfl)) k0 bel lt0) (trodAll_cons_mk (Below.trod laidOut (by kernel_rfl) (of_decide_eq_true (by kernel_rfl)) k1 bel lt1) trodAll_mk0)),rfl,bel.frame _,fun h=>by cases h⟩

theorem over:Rows.scanSaysRow.holds Tryz.pinned (OpenSpec.ofChange Rows.scanSaysSpec) :=
  OpenClaim.holds_of_wide_leaving 4 Tryz.f4 rfl rfl rfl rfl rfl rfl rfl ⟨rfl,rfl,rfl,rfl,rfl⟩ rfl rfl rfl rfl rfl (by kernel_rfl) Tryz.func4 (by kernel_rfl)
    (of_decide_eq_true (by kernel_rfl)) (by unfold Func.isWrapper; first | (rw [if_pos (by decide +kernel)]; kernel_rfl) | (rw [if_neg (by decide +kernel)]; exact ⟨rfl,rfl⟩))
    (fun os started H enc _=>lifted os started H enc)

theorem proved:Rows.ScanSaysCardSaid :=
  holds_tied_goes .later [.handle] true Rows.scanSaysCard.stood.harness true
    over (by kernel_rfl) scanSays_row_tie rfl ⟨rfl,rfl⟩ (by kernel_rfl) rfl
    (fun f fn hf hfn=>by
      obtain rfl:f = 4:=Option.some.inj ((show Tryz.prog.funcNamed "granary/granarylaw1.ScanSays" = some 4 by kernel_rfl).symm.trans hf) |>.symm
      obtain rfl:fn = Tryz.f4:=(Option.some.inj (Tryz.func4.symm.trans hfn)).symm
      exact ⟨by kernel_rfl,fun j t ht=>by
        rw [Tryz.params4] at ht
        rcases j with _ | j
        · obtain rfl:t = 43:=by simpa using ht.symm
          exact (show Tryz.prog.wantsStandIn 43 = false by kernel_rfl)
        rcases j with _ | j
        · obtain rfl:t = 3:=by simpa using ht.symm
          exact (show Tryz.prog.wantsStandIn 3 = false by kernel_rfl)
        simp at ht⟩)
    (by kernel_rfl)
#print axioms proved
end Go.Proofs.YtlaipigilikmbaaGreatDoor.scanSaysLaw
