/- The tag of bytes and bytes behind them is joined of both tags: where the bytes are not too many. -/
import Derived.Test.YtfkimpbgiiakcaaAx7
import Derived.Test.YtfkimpbgiiakcaaP5
namespace Go.Proofs.Ytfkimpbgiiakcaa.A
open Go.RowKit Go.Proofs.YtfkimpbgiiakcaaW.PrintWords Go.Proofs.YtfkimpbgiiakcaaW.PrintLast Go.Proofs.YtfkimpbgiiakcaaW.PrintMore
set_option linter.unusedVariables false
theorem rightB_of {t : Int × Int} (h : InP t) : rightB t.1 t.2 = true := by
  unfold rightB
  exact decide_eq_true h
theorem pureTagWhole (l0 l1 : List Int) (h0 : l0.length ≤ 1048576) (h1 : l1.length ≤ 1048576) (b0 : ∀ x ∈ l0, (Lit.int .u8 x).wf = true) (b1 : ∀ x ∈ l1, (Lit.int .u8 x).wf = true) : ambrylaw03_TagWhole.f l0 l1 = some true := by
  have hb0 := bytes_wf b0
  have hb1 := bytes_wf b1
  have hb : Bytes_ (l0 ++ l1) := by
    intro x hx
    rcases List.mem_append.1 hx with hx | hx
    · exact hb0 x hx
    · exact hb1 x hx
  have hl : (l0 ++ l1).length ≤ 140737488355328 := by rw [List.length_append]; omega
  have hj : tag_Join.f (tagOf l0).1 (tagOf l0).2 (tagOf l1).1 (tagOf l1).2 (l1.length : Int) = some ((tagOf (l0 ++ l1)).1, (tagOf (l0 ++ l1)).2, 0) := by
    unfold tag_Join.f
    rw [if_pos ⟨rightB_of (tagOf_in l0), rightB_of (tagOf_in l1), by omega⟩, if_pos (by omega), Int.toNat_natCast, tagOf_append]
  unfold ambrylaw03_TagWhole.f
  rw [tag_Of_is l0 hb0 (by omega), tag_Of_is l1 hb1 (by omega)]
  simp only [Option.bind_some]
  rw [hj]
  simp only [Option.bind_some, List.length_nil, Nat.zero_add, List.nil_append]
  rw [if_pos (by omega), if_pos (by omega), tag_Of_is (l0 ++ l1) hb hl]
  simp only [Option.bind_some, beq_self_eq_true, Bool.and_self, if_true]
  rfl
end Go.Proofs.Ytfkimpbgiiakcaa.A
