/- What is taken is counted. -/
import Derived.Test.YtagplafbdmjagaaV15
import Derived.Below
import Derived.Deep.Draws
import Derived.Deep.AppendLies
import Derived.Maps.AppendAt
import Derived.OwnWalk
import Derived.Laws.BytesArg
import Derived.Laws.MakeOwn
import Derived.Laws.OwnMore
import Derived.Deep.OwnRows
import Derived.Tactics
import Derived.Lib.ConvBytes
import Derived.Laws.Slices
import Derived.WalkKit
import Derived.KernelRfl
import Derived.RowKit3
import Derived.Deep.LoopGhost
import Derived.Deep.QuietTactic
import Derived.BigQuiet
import Derived.WideLaws
import Derived.Deep.DeepCutAuto
import Derived.Deep.CutBlock
import Derived.Deep.RegionHeld3
import Derived.Laws.Rows
import Derived.Lib.AppendStr
import Derived.ArgAppend
import Derived.Laws.IdiomCopy
import Derived.OrdersHeld
import Derived.Laws.BitsLemmas
import Derived.RowKit
import Derived.Laws.Cover1
import Derived.Deep.RegionWith
import Derived.Deep.RegionLaw
import Derived.WalkMore
import Derived.ScopeJumps
import Derived.Test.YtagplafbdmjagaaWWords
import Derived.Test.YtagplafbdmjagaaWLast
import Derived.Test.YtagplafbdmjagaaWTab
import Derived.Test.YtagplafbdmjagaaWFour
import Derived.Test.YtagplafbdmjagaaWQPut
import Derived.Test.YtagplafbdmjagaaWApart
import Derived.Test.YtagplafbdmjagaaWArr
import Derived.Test.YtagplafbdmjagaaWZeros
import Derived.Test.YtagplafbdmjagaaWFoot
import Derived.Test.YtagplafbdmjagaaWKept
import Derived.Test.YtagplafbdmjagaaWShare
import Derived.Test.YtagplafbdmjagaaWN
import Derived.Test.YtagplafbdmjagaaWFootNe
import Derived.Test.YtagplafbdmjagaaWAt
import Derived.Test.YtagplafbdmjagaaWEqStruct
import Derived.Test.YtagplafbdmjagaaWRepsOne
import Derived.Test.YtagplafbdmjagaaWInv
import Derived.Test.YtagplafbdmjagaaWInvWords
import Derived.Test.YtagplafbdmjagaaWGuard
import Derived.Test.YtagplafbdmjagaaWNEv
import Derived.Test.YtagplafbdmjagaaWMore
import Derived.Laws.BitsAllLaws
namespace Go.Proofs.Ytagplafbdmjagaa.A
open Go.RowKit Go.Proofs.YtagplafbdmjagaaW.PrintWords Go.Proofs.YtagplafbdmjagaaW.PrintLast Go.Proofs.YtagplafbdmjagaaW.PrintMore
set_option linter.unusedVariables false
theorem cnt_all {f : Nat → Bool} (k : Nat) (h : ∀ x, x < k → f x = true) : cnt f k = k := by
  induction k with
  | zero => rfl
  | succ k ih => rw [cnt, ih (fun x hx => h x (by omega)), h k (by omega)]; rfl
theorem cnt_no {f : Nat → Bool} (k : Nat) (h : ∀ x, x < k → f x = false) : cnt f k = 0 := by
  induction k with
  | zero => rfl
  | succ k ih => rw [cnt, ih (fun x hx => h x (by omega)), h k (by omega)]; rfl
theorem cnt_setT {T : Nat → Bool} {n i k : Nat} (h : RowAt T n i k) : cnt (setT T i k true) n = cnt T n + k := by
  have hn := h.1
  obtain ⟨d, rfl⟩ : ∃ d, n = i + (k + d) := ⟨n - i - k, by omega⟩
  rw [cnt_add, cnt_add, cnt_add T i, cnt_add (fun x => T (i + x)) k]
  have e1 : cnt (setT T i k true) i = cnt T i := cnt_congr _ (fun x hx => by unfold setT; rw [if_neg (by omega)])
  have e2 : cnt (fun x => setT T i k true (i + x)) k = k := cnt_all _ (fun x hx => by unfold setT; rw [if_pos (by omega)])
  have e3 : cnt (fun x => T (i + x)) k = 0 := cnt_no _ (fun x hx => h.2 _ (by omega) (by omega))
  have e4 : cnt (fun x => setT T i k true (i + (k + x))) d = cnt (fun x => T (i + (k + x))) d := cnt_congr _ (fun x hx => by unfold setT; rw [if_neg (by omega)])
  rw [e1, e2, e3, e4]
  omega
end Go.Proofs.Ytagplafbdmjagaa.A
