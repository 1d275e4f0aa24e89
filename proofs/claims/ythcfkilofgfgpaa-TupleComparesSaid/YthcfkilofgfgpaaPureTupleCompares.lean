/- Whatever two lists of parts there are: the program and the document tell the same of how they stand. -/
import Derived.Test.YthcfkilofgfgpaaM4r
import Derived.Test.YthcfkilofgfgpaaM5
import Derived.Test.YthcfkilofgfgpaaAx7
namespace Go.Proofs.Ythcfkilofgfgpaa.A
open Go.RowKit Go.Proofs.YthcfkilofgfgpaaW.PrintWords Go.Proofs.YthcfkilofgfgpaaW.PrintLast Go.Proofs.YthcfkilofgfgpaaW.PrintMore
set_option linter.unusedVariables false
set_option linter.unusedSimpArgs false
theorem compares_yes (a b : List S46) : Ev (fun k => ambrylaw02_TupleCompares.j0 k a b true) true :=
  Ev.step (f := fun k => (ambrylaw02_lives.f k).bind fun t => some t) (fun k => by rw [ambrylaw02_TupleCompares.j0, if_pos rfl]) lives_then
theorem pureTupleCompares (a b : List S46) (ha : PartsOk a) (hb : PartsOk b) : ∃ k, ambrylaw02_TupleCompares.f k a b = some true := by
  refine Ev.rounds (r := true) ?_
  by_cases h1 : (a.length : Int) > 1000
  · exact Ev.congr (f := fun k => ambrylaw02_TupleCompares.j0 k a b true) (fun k => by unfold ambrylaw02_TupleCompares.f; rw [if_pos h1]) (compares_yes a b)
  refine Ev.congr (f := fun k => ambrylaw02_TupleCompares.j0 k a b (decide ((b.length : Int) > 1000))) (fun k => by unfold ambrylaw02_TupleCompares.f; rw [if_neg h1]) ?_
  by_cases h2 : (b.length : Int) > 1000
  · rw [decide_eq_true h2]
    exact compares_yes a b
  rw [decide_eq_false h2]
  refine Ev.step (f := fun k => (tuple_Compare.f k a b).bind fun x => (ambryref02_Compare.f k a b).bind fun y => (if x.1 = y.1 then (if x.2 = y.2 then ((ambrylaw02_lives.f k).bind fun t => (some t)) else (some false)) else (some false))) (fun k => by rw [ambrylaw02_TupleCompares.j0, if_neg (by decide)]) ?_
  refine Ev.bind (compare_ev a b ha hb) (Ev.bind (rcompare_ev a b ha hb) ?_)
  exact Ev.congr (f := fun k => (ambrylaw02_lives.f k).bind fun t => some t) (fun k => by rw [if_pos rfl, if_pos rfl]) lives_then
end Go.Proofs.Ythcfkilofgfgpaa.A
