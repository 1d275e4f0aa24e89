/- Any bytes have the tag that the document says. It holds for every input that can be read, on the terms that the row's own cells name; nothing further is asked. -/
import Derived.Test.YtfkimpbgiiakcaaAx2
import Derived.Test.YtfkimpbgiiakcaaP1
namespace Go.Proofs.Ytfkimpbgiiakcaa.Pure
open Go.RowKit Go.Proofs.Ytfkimpbgiiakcaa.A Go.Proofs.YtfkimpbgiiakcaaW.PrintWords Go.Proofs.YtfkimpbgiiakcaaW.PrintLast
theorem TagBodies : ambrylaw03_TagBodies.Pure := by
  intro l0 h1 h2 h3
  have hb := bytes_wf h3
  have hs : (strOfNums l0).size ≤ 140737488351232 := by rw [nums_size]; omega
  obtain ⟨k, hk⟩ := (rof_ev (strOfNums l0) hs).rounds
  refine ⟨k, ?_⟩
  rw [bytes_of_nums l0 hb] at hk
  unfold ambrylaw03_TagBodies.f
  rw [tag_Of_is l0 hb (by omega), hk]
  simp only [Option.bind_some, beq_self_eq_true, Bool.and_self, if_true]
  rfl
end Go.Proofs.Ytfkimpbgiiakcaa.Pure
