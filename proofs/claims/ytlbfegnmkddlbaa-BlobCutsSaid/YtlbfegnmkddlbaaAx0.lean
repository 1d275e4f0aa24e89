-- Written for this claim by a program of the session: the kit's printer with hand-written contracts put in. Lean checks it.
import Derived.Test.YtlbfegnmkddlbaaProg
import Derived.Below
import Derived.Deep.Draws
import Derived.Deep.AppendLies
import Derived.Maps.AppendAt
import Derived.OwnWalk
import Derived.Laws.BytesArg
import Derived.Laws.MakeOwn
import Derived.Laws.OwnMore
import Derived.Deep.OwnRows
import Derived.Tactics
import Derived.Lib.ConvBytes
import Derived.Laws.Slices
import Derived.WalkKit
import Derived.KernelRfl
import Derived.RowKit3
import Derived.Deep.LoopGhost
import Derived.Deep.QuietTactic
import Derived.BigQuiet
import Derived.WideLaws
import Derived.Deep.DeepCutAuto
import Derived.Deep.CutBlock
import Derived.Deep.RegionHeld3
import Derived.Laws.Rows
import Derived.Lib.AppendStr
import Derived.ArgAppend
import Derived.Laws.IdiomCopy
import Derived.OrdersHeld
import Derived.Laws.BitsLemmas
import Derived.RowKit
import Derived.Laws.Cover1
import Derived.Deep.RegionWith
import Derived.Deep.RegionLaw
import Derived.WalkMore
import Derived.ScopeJumps
import Derived.Test.YtlbfegnmkddlbaaJ
import Derived.Test.YtlbfegnmkddlbaaH3
import Derived.Test.YtlbfegnmkddlbaaWWords
import Derived.Test.YtlbfegnmkddlbaaWLast
import Derived.Test.YtlbfegnmkddlbaaWTab
import Derived.Test.YtlbfegnmkddlbaaWFour
import Derived.Test.YtlbfegnmkddlbaaWQPut
import Derived.Test.YtlbfegnmkddlbaaWApart
import Derived.Test.YtlbfegnmkddlbaaWArr
import Derived.Test.YtlbfegnmkddlbaaWZeros
import Derived.Test.YtlbfegnmkddlbaaWFoot
import Derived.Test.YtlbfegnmkddlbaaWKept
import Derived.Test.YtlbfegnmkddlbaaWShare
import Derived.Test.YtlbfegnmkddlbaaWN
import Derived.Test.YtlbfegnmkddlbaaWFootNe
import Derived.Test.YtlbfegnmkddlbaaWAt
import Derived.Test.YtlbfegnmkddlbaaWEqStruct
import Derived.Test.YtlbfegnmkddlbaaWRepsOne
import Derived.Test.YtlbfegnmkddlbaaWInv
import Derived.Test.YtlbfegnmkddlbaaWInvWords
import Derived.Test.YtlbfegnmkddlbaaWGuard
import Derived.Test.YtlbfegnmkddlbaaWNEv
import Derived.Test.YtlbfegnmkddlbaaWMore
namespace Go.Proofs.Ytlbfegnmkddlbaa.A
open Go.RowKit Go.Proofs.YtlbfegnmkddlbaaW.PrintWords Go.Proofs.YtlbfegnmkddlbaaW.PrintLast Go.Proofs.YtlbfegnmkddlbaaW.PrintMore
attribute [local go_sem] max2_int min2_int max_two min_two max_three min_three max_four min_four   -- for this text's walks alone
set_option linter.unusedVariables false
set_option linter.unusedSimpArgs false



def errW : Option Int → Value
  | none => .nilIface
  | some c => .iface 0 (.int .i64 c)
theorem errW_none : errW none = .nilIface := rfl
theorem errW_some (c : Int) : errW (some c) = .iface 0 (.int .i64 c) := rfl

theorem info3 : (Try.prog.info? 3).map (fun i => (i.zero, i.size, i.bytes)) = some (some (.int .i64 0), 1, 8) := by kernel_rfl
theorem info5 : (Try.prog.info? 5).map (fun i => (i.zero, i.size, i.bytes)) = some (some (.int .u8 0), 1, 1) := by kernel_rfl
theorem info9 : (Try.prog.info? 9).map (fun i => (i.zero, i.size, i.bytes)) = some (some (.string ⟨#[]⟩), 1, 16) := by kernel_rfl
-- the values' own types

end Go.Proofs.Ytlbfegnmkddlbaa.A
