/- Any body is cut into the chunks, and any texts are the body of a size and tag, that the document says. -/
import Derived.Test.YtlbfegnmkddlbaaN4
import Derived.Test.YtlbfegnmkddlbaaAx7
namespace Go.Proofs.Ytlbfegnmkddlbaa.A
open Go.RowKit Go.Proofs.YtlbfegnmkddlbaaW.PrintWords Go.Proofs.YtlbfegnmkddlbaaW.PrintLast Go.Proofs.YtlbfegnmkddlbaaW.PrintMore
set_option linter.unusedVariables false
theorem pureBlobCuts (s : ByteArray) (l : List ByteArray) (size t0 t1 : Int) (hs : s.size ≤ 140737488351232) : ∃ k, ambrylaw19_BlobCuts.f k s l size t0 t1 = some true := by
  classical
  have h : Ev (fun k => ambrylaw19_BlobCuts.f k s l size t0 t1) true := by
    refine Ev.congr (fun k => rfl) (Ev.bind (few_ev l) ?_)
    by_cases hf : Few l
    · simp only [decide_eq_true hf, if_true]
      have hcl : (CutR s).1.length ≤ 4398046510976 := by
        unfold CutR
        split
        · have : (chunksB s (countB s)).length = (s.size + 159) / 160 := by simp [chunksB, countB]
          simp only
          omega
        · simp
      refine Ev.bind (cut_ev s hs) (Ev.bind (rcut_ev s hs) (Ev.bind (join_ev l hf size t0 t1) (Ev.bind (rjoin_ev l hf size t0 t1) (Ev.bind (rsame_ev _ _ hcl) ?_))))
      simp only [decide_true, if_true]
      refine Ev.bind (check_ev l hf size t0 t1) (Ev.bind (rcheck_ev l hf size t0 t1) ?_)
      simp only [if_true]
      exact lives_then
    · simp only [decide_eq_false hf, Bool.false_eq_true, if_false]
      exact lives_then
  exact h.rounds
end Go.Proofs.Ytlbfegnmkddlbaa.A
