/- AllocNil's walk. -/
import Derived.Test.YtagplafbdmjagaaV13
import Derived.Below
import Derived.Deep.Draws
import Derived.Deep.AppendLies
import Derived.Maps.AppendAt
import Derived.OwnWalk
import Derived.Laws.BytesArg
import Derived.Laws.MakeOwn
import Derived.Laws.OwnMore
import Derived.Deep.OwnRows
import Derived.Tactics
import Derived.Lib.ConvBytes
import Derived.Laws.Slices
import Derived.WalkKit
import Derived.KernelRfl
import Derived.RowKit3
import Derived.Deep.LoopGhost
import Derived.Deep.QuietTactic
import Derived.BigQuiet
import Derived.WideLaws
import Derived.Deep.DeepCutAuto
import Derived.Deep.CutBlock
import Derived.Deep.RegionHeld3
import Derived.Laws.Rows
import Derived.Lib.AppendStr
import Derived.ArgAppend
import Derived.Laws.IdiomCopy
import Derived.OrdersHeld
import Derived.Laws.BitsLemmas
import Derived.RowKit
import Derived.Laws.Cover1
import Derived.Deep.RegionWith
import Derived.Deep.RegionLaw
import Derived.WalkMore
import Derived.ScopeJumps
import Derived.Test.YtagplafbdmjagaaWWords
import Derived.Test.YtagplafbdmjagaaWLast
import Derived.Test.YtagplafbdmjagaaWTab
import Derived.Test.YtagplafbdmjagaaWFour
import Derived.Test.YtagplafbdmjagaaWQPut
import Derived.Test.YtagplafbdmjagaaWApart
import Derived.Test.YtagplafbdmjagaaWArr
import Derived.Test.YtagplafbdmjagaaWZeros
import Derived.Test.YtagplafbdmjagaaWFoot
import Derived.Test.YtagplafbdmjagaaWKept
import Derived.Test.YtagplafbdmjagaaWShare
import Derived.Test.YtagplafbdmjagaaWN
import Derived.Test.YtagplafbdmjagaaWFootNe
import Derived.Test.YtagplafbdmjagaaWAt
import Derived.Test.YtagplafbdmjagaaWEqStruct
import Derived.Test.YtagplafbdmjagaaWRepsOne
import Derived.Test.YtagplafbdmjagaaWInv
import Derived.Test.YtagplafbdmjagaaWInvWords
import Derived.Test.YtagplafbdmjagaaWGuard
import Derived.Test.YtagplafbdmjagaaWNEv
import Derived.Test.YtagplafbdmjagaaWMore
import Derived.Laws.BitsAllLaws
namespace Go.Proofs.Ytagplafbdmjagaa.A
open Go.RowKit Go.Proofs.YtagplafbdmjagaaW.PrintWords Go.Proofs.YtagplafbdmjagaaW.PrintLast Go.Proofs.YtagplafbdmjagaaW.PrintMore
set_option linter.unusedVariables false
set_option maxHeartbeats 4000000
set_option maxRecDepth 100000
theorem Take_nil (w : World) (k : Int) : Calls Try.prog 12 #[.pointer none, .int .i64 k] w fun e w' => e = .returned (.tuple #[.int .i64 0, .int .i64 1]) ∧ w' = w := by
  go_enter Try.func12, Try.ntmps12
  go_wp2_with (first | (go_at_call 23; (with_reducible refine (made_nil _).mono ?_); rintro e w1 ⟨rfl, rfl⟩))
  go_ret2
  exact ⟨rfl, rfl⟩
theorem Take_zero (w : World) (p : Nat) (v : Value) (h : w.heap[p]? = some (.cells #[.int .i64 0, v] 55 (0, 0))) (k : Int) : Calls Try.prog 12 #[.pointer (some ⟨p, 0, none⟩), .int .i64 k] w fun e w' => e = .returned (.tuple #[.int .i64 0, .int .i64 1]) ∧ w' = w := by
  go_enter Try.func12, Try.ntmps12
  go_wp2_with (first | (go_at_call 23; (with_reducible refine (made_zero _ p v h).mono ?_); rintro e w1 ⟨rfl, rfl⟩))
  go_ret2
  exact ⟨rfl, rfl⟩
theorem Claim_nil (w : World) (i : Int) : Calls Try.prog 22 #[.pointer none, .int .i64 i] w fun e w' => e = .returned (.int .i64 1) ∧ w' = w := by
  go_enter Try.func22, Try.ntmps22
  go_wp2_with (first | (go_at_call 23; (with_reducible refine (made_nil _).mono ?_); rintro e w1 ⟨rfl, rfl⟩))
  go_ret
  exact ⟨rfl, rfl⟩
theorem Claim_zero (w : World) (p : Nat) (v : Value) (h : w.heap[p]? = some (.cells #[.int .i64 0, v] 55 (0, 0))) (i : Int) : Calls Try.prog 22 #[.pointer (some ⟨p, 0, none⟩), .int .i64 i] w fun e w' => e = .returned (.int .i64 1) ∧ w' = w := by
  go_enter Try.func22, Try.ntmps22
  go_wp2_with (first | (go_at_call 23; (with_reducible refine (made_zero _ p v h).mono ?_); rintro e w1 ⟨rfl, rfl⟩))
  go_ret
  exact ⟨rfl, rfl⟩
theorem Give_nil (w : World) (i k : Int) : Calls Try.prog 14 #[.pointer none, .int .i64 i, .int .i64 k] w fun e w' => e = .returned (.int .i64 1) ∧ w' = w := by
  go_enter Try.func14, Try.ntmps14
  go_wp2_with (first | (go_at_call 23; (with_reducible refine (made_nil _).mono ?_); rintro e w1 ⟨rfl, rfl⟩))
  go_ret
  exact ⟨rfl, rfl⟩
theorem Give_zero (w : World) (p : Nat) (v : Value) (h : w.heap[p]? = some (.cells #[.int .i64 0, v] 55 (0, 0))) (i k : Int) : Calls Try.prog 14 #[.pointer (some ⟨p, 0, none⟩), .int .i64 i, .int .i64 k] w fun e w' => e = .returned (.int .i64 1) ∧ w' = w := by
  go_enter Try.func14, Try.ntmps14
  go_wp2_with (first | (go_at_call 23; (with_reducible refine (made_zero _ p v h).mono ?_); rintro e w1 ⟨rfl, rfl⟩))
  go_ret
  exact ⟨rfl, rfl⟩
theorem Has_nil (w : World) (i : Int) : Calls Try.prog 15 #[.pointer none, .int .i64 i] w fun e w' => e = .returned (.bool false) ∧ w' = w := by
  go_enter Try.func15, Try.ntmps15
  go_wp2_with (first | (go_at_call 23; (with_reducible refine (made_nil _).mono ?_); rintro e w1 ⟨rfl, rfl⟩))
  go_ret
  exact ⟨rfl, rfl⟩
theorem Has_zero (w : World) (p : Nat) (v : Value) (h : w.heap[p]? = some (.cells #[.int .i64 0, v] 55 (0, 0))) (i : Int) : Calls Try.prog 15 #[.pointer (some ⟨p, 0, none⟩), .int .i64 i] w fun e w' => e = .returned (.bool false) ∧ w' = w := by
  go_enter Try.func15, Try.ntmps15
  go_wp2_with (first | (go_at_call 23; (with_reducible refine (made_zero _ p v h).mono ?_); rintro e w1 ⟨rfl, rfl⟩))
  go_ret
  exact ⟨rfl, rfl⟩
theorem allocNil_walk (i k : Int) (made : Bool) (w : World) : Calls Try.prog 7 #[.int .i64 i, .int .i64 k, .bool made] w fun e w' => e = .returned (.bool true) ∧ Below w.heap.size w w' := by
  cases made with
  | false =>
    go_enter Try.func7, Try.ntmps7
    go_wp2_with (first | (go_at_call 12; (with_reducible refine (Take_nil _ k).mono ?_); rintro e w12 ⟨rfl, hw12⟩; obtain rfl := hw12) | (go_at_call 22; (with_reducible refine (Claim_nil _ i).mono ?_); rintro e w22 ⟨rfl, hw22⟩; obtain rfl := hw22) | (go_at_call 14; (with_reducible refine (Give_nil _ i k).mono ?_); rintro e w14 ⟨rfl, hw14⟩; obtain rfl := hw14) | (go_at_call 15; (with_reducible refine (Has_nil _ i).mono ?_); rintro e w15 ⟨rfl, hw15⟩; obtain rfl := hw15) | (go_at_call 11; (with_reducible refine (Free_nil _ ).mono ?_); rintro e w11 ⟨rfl, hw11⟩; obtain rfl := hw11) | (go_at_call 10; (with_reducible refine (Rows_nil _ ).mono ?_); rintro e w10 ⟨rfl, hw10⟩; obtain rfl := hw10) | (go_at_call 21; (with_reducible refine (Copy_nil _ ).mono ?_); rintro e w21 ⟨rfl, hw21⟩; obtain rfl := hw21) | (go_at_call 9; (with_reducible refine (lives_calls _).mono ?_); rintro e w9 ⟨rfl, hb9⟩; have HB9 := Aside0.mk hb9; clear hb9))
    go_ret
    exact ⟨rfl, HB9.out⟩
  | true =>
    go_enter Try.func7, Try.ntmps7
    go_wp2_with (first | ((with_reducible refine gate_dst (N := 12) rfl ?_); refine box_event ?hg (N := 12) ?hd (cs := #[.int .i64 0, .slice none 0 0]) (t := 55) ?hr ?_; (case hd => rfl); (case hg => rfl); (case hr => first | (go_simp; done) | (go_simp; rfl)); intro g hg w3 hbox hb; have HBX := Aside0.mk hbox; have HB := Aside0.mk hb; clear hbox hb hg) | (go_at_call 12; (with_reducible refine (Take_zero _ _ _ HBX.out k).mono ?_); rintro e w12 ⟨rfl, hw12⟩; subst hw12) | (go_at_call 22; (with_reducible refine (Claim_zero _ _ _ HBX.out i).mono ?_); rintro e w22 ⟨rfl, hw22⟩; subst hw22) | (go_at_call 14; (with_reducible refine (Give_zero _ _ _ HBX.out i k).mono ?_); rintro e w14 ⟨rfl, hw14⟩; subst hw14) | (go_at_call 15; (with_reducible refine (Has_zero _ _ _ HBX.out i).mono ?_); rintro e w15 ⟨rfl, hw15⟩; subst hw15) | (go_at_call 11; (with_reducible refine (Free_zero _ _ _ HBX.out ).mono ?_); rintro e w11 ⟨rfl, hw11⟩; subst hw11) | (go_at_call 10; (with_reducible refine (Rows_zero _ _ _ HBX.out ).mono ?_); rintro e w10 ⟨rfl, hw10⟩; subst hw10) | (go_at_call 21; (with_reducible refine (Copy_zero _ _ _ HBX.out ).mono ?_); rintro e w21 ⟨rfl, hw21⟩; subst hw21) | (go_at_call 9; (with_reducible refine (lives_calls _).mono ?_); rintro e w9 ⟨rfl, hb9⟩; have HB9 := Aside0.mk hb9; clear hb9))
    go_ret
    exact ⟨rfl, HB.out.trans (HB9.out.mono HB.out.size)⟩
end Go.Proofs.Ytagplafbdmjagaa.A
