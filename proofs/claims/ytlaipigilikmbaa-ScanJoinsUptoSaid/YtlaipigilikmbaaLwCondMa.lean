/- From a law that wins in company, where what came in is of small bulk, to the form. -/
import Derived.Test.YtlaipigilikmbaaMa30
import Derived.Test.YtlaipigilikmbaaBulkMa
import Derived.JoinedCond
set_option linter.unusedVariables false
namespace Go
open Go.Conc
/-- One good run from every start of small bulk. -/
theorem Proofs.Ytlaipigilikmbaa.leaving_cond {H : Type} {enc : TypeId × Value → H} {C : Checked} {os : Os} {f : FuncId} {fn : Func} {s : OpenSpec} {k : (H : Type) → List (DataW H) → Bool} (hk : s.cond = some k) {conds : List PathCond} {apart : Bool} {Post : World → Array Value → Value → World → Prop}
    (own : ownKnob C.prog.godebug = none) (started : os.Started) (hfn : C.prog.funcs[f]? = some fn)
    (witness : ∃ (w : World) (tape : Tape) (i : Input), w.os = os ∧ (w.forCall tape i).Shaped C.prog ∧ i.vars = [] ∧ Input.okWide C.prog (w.forCall tape i) .any w.heap.size f i ∧
      s.pre6 enc C.prog fn conds apart (w.forCall tape i).memory i.args ∧ ({} : Assume).holds C.prog (lone (Frame.enter C.prog f i.args .normal) [] (w.forCall tape i)))
    (runs : ∀ (W : World) (base : Nat) (args : Array Value) (ds gs : List (DataW H)) (before : List MemPlace),
      (∀ (j : Nat) t v, fn.params[j]? = some t → args[j]? = some v → Value.okWide C.prog W .any base t v) →
      DataW.Whole enc C.prog fn.params.toList s.vars apart W args.toList ds gs before → k H (ds ++ gs) = true →
      W.ShapedOpen C.prog → (W.tape = fun _ _ => 0) → ∀ τ d, Proofs.Ytlaipigilikmbaa.Cl.Ended C.prog (fun v W' => Post W args v W'.blind) (solo (G (Frame.enter C.prog f args .normal) []) (Proofs.Ytlaipigilikmbaa.Co.re W τ d)) #[]) :
    ReturnsInLeavingWide {} C os f .any (s.pre6 enc C.prog fn conds apart) Post := by
  refine returnsInLeavingWide_of_good own started witness ?_
  intro w tape i _ hsh _ hok hpre _
  obtain ⟨_, _, _, fn', hfn', _, _, _, _, hval⟩ := hok
  have e : fn' = fn := Option.some.inj (hfn'.symm.trans hfn)
  subst e
  obtain ⟨ds, gs, before, hw, -, hkk⟩ := (OpenSpec.pre_some hk conds apart _ _).1 hpre.1
  have hw' := DataW.Whole.of_heap (w' := (w.forCall tape i).blind) (by rfl) hw
  obtain ⟨M, last, o, w', t', h1, h2, h3, h4⟩ := runs (w.forCall tape i).blind w.heap.size i.args ds gs before hval hw' hkk hsh rfl (w.forCall tape i).tape (w.forCall tape i).drawn
  exact ⟨M, last, o, w', t', h1, h2, h3, h4⟩
end Go
namespace Go.Proofs.Ytlaipigilikmbaa.Cl
open Go Go.Proofs.Ytlaipigilikmbaa Go.RowKit Go.WideShapes Go.ChangeShapes Go.ChangeAt Go.Deep
/-- A slice's length is in the bulk of what is read. -/
theorem len_bulk {H : Type} {enc : TypeId × Value → H} {P : Program} {W : World} {tt t : TypeId} {A : Option Addr} {L cp : Nat} {d : DataW H} {p : List MemPlace} (htt : P.underlying tt = some (.slice t)) (h : DataW.Trod enc P W 0 (fun _ => true) true tt (.slice A L cp) d p) : L ≤ Rows.uptoBulk d := by
  obtain ⟨fuel, hf⟩ := h
  rcases open_slice htt hf with ⟨hcs, -⟩ | ⟨a, len, cap, m, n, D, Pl, hcs, -, hl, hm, hmm, hx, hi⟩
  · simp [Value.cells] at hcs
    obtain ⟨rfl, rfl, rfl⟩ := hcs
    exact Nat.zero_le _
  · simp [Value.cells] at hcs
    obtain ⟨rfl, rfl, rfl⟩ := hcs
    simp only [Prod.mk.injEq] at hx
    obtain ⟨rfl, -⟩ := hx
    simp only [Rows.uptoBulk]
    refine Nat.le_trans ?_ (Nat.le_add_right _ _)
    refine Nat.le_trans ?_ (Nat.le_add_right _ _)
    refine Nat.le_trans ?_ (bulk_count _)
    simp
end Go.Proofs.Ytlaipigilikmbaa.Cl
