/- Whatever parts there are: the program's and the document's encoder tell the same, and so do their checks. -/
import Derived.Test.YthcfkilofgfgpaaM3
import Derived.Test.YthcfkilofgfgpaaM5
namespace Go.Proofs.Ythcfkilofgfgpaa.A
open Go.RowKit Go.Proofs.YthcfkilofgfgpaaW.PrintWords Go.Proofs.YthcfkilofgfgpaaW.PrintLast Go.Proofs.YthcfkilofgfgpaaW.PrintMore
set_option linter.unusedVariables false
set_option linter.unusedSimpArgs false
theorem enc_size (l : List S46) : (Enc l).1.size ≤ 128 := by
  unfold Enc
  split
  · split
    · rw [strOfNums_size]; assumption
    · exact Nat.zero_le _
  · exact Nat.zero_le _
theorem pureTupleWrites (l : List S46) (hl : PartsOk l) : ∃ k, ambrylaw02_TupleWrites.f k l = some true := by
  refine Ev.rounds (r := true) ?_
  by_cases hb : (l.length : Int) > 1000
  · exact Ev.congr (f := fun k => (ambrylaw02_lives.f k).bind fun t => some t) (fun k => by unfold ambrylaw02_TupleWrites.f; rw [if_pos hb]) lives_then
  refine Ev.congr (f := fun k => (tuple_Encode.f k l).bind fun x => (ambryref02_Encode.f k l).bind fun y => (tuple_Check.f k l).bind fun t => (ambryref02_Check.f k l).bind fun u => (if t = u then (if x.1.toList = y.1.toList then (if x.2 = y.2 then ((tuple_Behind.f x.1).bind fun t239 => (if y.1.size + 1 ≤ 9223372036854775807 then (if t239.toList = (y.1 ++ (⟨#[255]⟩ : ByteArray)).toList then ((ambrylaw02_lives.f k).bind fun t240 => (some t240)) else (some false)) else (none))) else (some false)) else (some false)) else (some false))) (fun k => by unfold ambrylaw02_TupleWrites.f; rw [if_neg hb]) ?_
  refine Ev.bind (encode_ev l hl) (Ev.bind (rencode_ev l hl) (Ev.bind (check_ev l hl) (Ev.bind (rcheck_ev l hl) ?_)))
  have hs := enc_size l
  refine Ev.congr (f := fun k => (ambrylaw02_lives.f k).bind fun t => some t) (fun k => ?_) lives_then
  unfold tuple_Behind.f
  rw [if_pos rfl, if_pos rfl, if_pos rfl, if_pos (by omega)]
  simp only [Option.bind_some]
  rw [if_pos (by omega), if_pos trivial]
end Go.Proofs.Ythcfkilofgfgpaa.A
