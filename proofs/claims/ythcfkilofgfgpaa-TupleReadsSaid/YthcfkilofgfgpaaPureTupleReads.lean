/- The program's and the document's decoders of keys tell the same of all bytes. -/
import Derived.Test.YthcfkilofgfgpaaM9
namespace Go.Proofs.Ythcfkilofgfgpaa.A
open Go.RowKit Go.Proofs.YthcfkilofgfgpaaW.PrintWords Go.Proofs.YthcfkilofgfgpaaW.PrintLast Go.Proofs.YthcfkilofgfgpaaW.PrintMore
set_option linter.unusedVariables false
set_option linter.unusedSimpArgs false
open Classical in
theorem pureTupleReads (s : ByteArray) (hs : s.size ≤ 140737488351232) : ∃ k, ambrylaw02_TupleReads.f k s = some true := by
  refine Ev.rounds (r := true) ?_
  unfold ambrylaw02_TupleReads.f
  refine Ev.bind (decode_ev s) (Ev.bind (rdecode_ev s) ?_)
  have h := dec_parts s
  refine Ev.bind (same_ev _ _ (by omega)) ?_
  refine Ev.congr (f := fun k => (ambrylaw02_lives.f k).bind fun t => some t) (fun k => ?_) lives_then
  rw [decide_eq_true rfl, if_pos rfl, if_pos rfl]
end Go.Proofs.Ythcfkilofgfgpaa.A
