/- Of bytes of one length whose bits differ only within 32 bits that follow one another, and somewhere, the sums are not the same. It holds for every input that can be read, on the terms that the row's own cells name; nothing further is asked. -/
import Derived.Test.YtfkimpbgiiakcaaAx3
import Derived.Test.YtfkimpbgiiakcaaP7
namespace Go.Proofs.Ytfkimpbgiiakcaa.Pure
open Go.RowKit Go.Proofs.Ytfkimpbgiiakcaa.A Go.Proofs.YtfkimpbgiiakcaaW.PrintWords Go.Proofs.YtfkimpbgiiakcaaW.PrintLast
theorem TagTurned : ambrylaw03_TagTurned.Pure := by
  intro l0 a1 a2 h1 h2 h3 _ _
  exact pureTagTurned l0 a1 a2 (by omega) (bytes_wf h3)
end Go.Proofs.Ytfkimpbgiiakcaa.Pure
