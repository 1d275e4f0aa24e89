/- lives. -/
import Derived.Test.YtagplafbdmjagaaV11
import Derived.Below
import Derived.Deep.Draws
import Derived.Deep.AppendLies
import Derived.Maps.AppendAt
import Derived.OwnWalk
import Derived.Laws.BytesArg
import Derived.Laws.MakeOwn
import Derived.Laws.OwnMore
import Derived.Deep.OwnRows
import Derived.Tactics
import Derived.Lib.ConvBytes
import Derived.Laws.Slices
import Derived.WalkKit
import Derived.KernelRfl
import Derived.RowKit3
import Derived.Deep.LoopGhost
import Derived.Deep.QuietTactic
import Derived.BigQuiet
import Derived.WideLaws
import Derived.Deep.DeepCutAuto
import Derived.Deep.CutBlock
import Derived.Deep.RegionHeld3
import Derived.Laws.Rows
import Derived.Lib.AppendStr
import Derived.ArgAppend
import Derived.Laws.IdiomCopy
import Derived.OrdersHeld
import Derived.Laws.BitsLemmas
import Derived.RowKit
import Derived.Laws.Cover1
import Derived.Deep.RegionWith
import Derived.Deep.RegionLaw
import Derived.WalkMore
import Derived.ScopeJumps
import Derived.Test.YtagplafbdmjagaaWWords
import Derived.Test.YtagplafbdmjagaaWLast
import Derived.Test.YtagplafbdmjagaaWTab
import Derived.Test.YtagplafbdmjagaaWFour
import Derived.Test.YtagplafbdmjagaaWQPut
import Derived.Test.YtagplafbdmjagaaWApart
import Derived.Test.YtagplafbdmjagaaWArr
import Derived.Test.YtagplafbdmjagaaWZeros
import Derived.Test.YtagplafbdmjagaaWFoot
import Derived.Test.YtagplafbdmjagaaWKept
import Derived.Test.YtagplafbdmjagaaWShare
import Derived.Test.YtagplafbdmjagaaWN
import Derived.Test.YtagplafbdmjagaaWFootNe
import Derived.Test.YtagplafbdmjagaaWAt
import Derived.Test.YtagplafbdmjagaaWEqStruct
import Derived.Test.YtagplafbdmjagaaWRepsOne
import Derived.Test.YtagplafbdmjagaaWInv
import Derived.Test.YtagplafbdmjagaaWInvWords
import Derived.Test.YtagplafbdmjagaaWGuard
import Derived.Test.YtagplafbdmjagaaWNEv
import Derived.Test.YtagplafbdmjagaaWMore
import Derived.Laws.BitsAllLaws
namespace Go.Proofs.Ytagplafbdmjagaa.A
open Go.RowKit Go.Proofs.YtagplafbdmjagaaW.PrintWords Go.Proofs.YtagplafbdmjagaaW.PrintLast Go.Proofs.YtagplafbdmjagaaW.PrintMore
set_option linter.unusedVariables false
set_option maxHeartbeats 4000000
set_option maxRecDepth 100000
theorem Take_some {w : World} {p q n : Nat} {T : Nat → Bool} (h : IsAlloc w p q n T) (k : Nat) (hk : 1 ≤ k) (hm : k < 9223372036854775808) (i : Nat) (h1 : RowAt T n i k) (h2 : ∀ x, x < i → ¬ RowAt T n x k) (x y : Int) (hx : (k : Int) = x) (hy : (i : Int) = y) : Calls Try.prog 12 #[.pointer (some ⟨p, 0, none⟩), .int .i64 x] w fun e w' => e = .returned (.tuple #[.int .i64 y, .int .i64 0]) ∧ IsAlloc w' p q n (setT T i k true) ∧ Own q w w' := by
  subst hx hy
  refine (Take_calls h (k : Int) (by omega)).mono ?_
  rintro e w' ⟨j, er, T', rfl, hr, ha, ho⟩
  rcases hr with ⟨g, _⟩ | ⟨_, g1, g2, rfl, rfl⟩ | ⟨_, g1, _⟩
  · omega
  · rw [Int.toNat_natCast] at g1 g2 ha
    have : j = i := by
      rcases Nat.lt_trichotomy j i with g | g | g
      · exact absurd g1 (h2 j g)
      · exact g
      · exact absurd h1 (g2 i g)
    subst this
    exact ⟨rfl, ha, ho⟩
  · exact absurd h1 (by rw [Int.toNat_natCast] at g1; exact g1 i)
theorem Take_none {w : World} {p q n : Nat} {T : Nat → Bool} (h : IsAlloc w p q n T) (k : Nat) (hk : 1 ≤ k) (hm : k < 9223372036854775808) (h2 : ∀ x, ¬ RowAt T n x k) (x : Int) (hx : (k : Int) = x) : Calls Try.prog 12 #[.pointer (some ⟨p, 0, none⟩), .int .i64 x] w fun e w' => e = .returned (.tuple #[.int .i64 0, .int .i64 10]) ∧ IsAlloc w' p q n T ∧ Own q w w' := by
  subst hx
  refine (Take_calls h (k : Int) (by omega)).mono ?_
  rintro e w' ⟨j, er, T', rfl, hr, ha, ho⟩
  rcases hr with ⟨g, _⟩ | ⟨_, g1, g2, rfl, rfl⟩ | ⟨_, g1, rfl, rfl, rfl⟩
  · omega
  · exact absurd g1 (by rw [Int.toNat_natCast]; exact h2 j)
  · exact ⟨rfl, ha, ho⟩
theorem Give_all {w : World} {p q n : Nat} {T : Nat → Bool} (h : IsAlloc w p q n T) (i k : Nat) (hk : 1 ≤ k) (hm : k < 9223372036854775808) (hn : i + k ≤ n) (h2 : ∀ j, i ≤ j → j < i + k → T j = true) (x y : Int) (hx : (i : Int) = x) (hy : (k : Int) = y) : Calls Try.prog 14 #[.pointer (some ⟨p, 0, none⟩), .int .i64 x, .int .i64 y] w fun e w' => e = .returned (.int .i64 0) ∧ IsAlloc w' p q n (setT T i k false) ∧ Own q w w' := by
  subst hx hy
  refine (Give_calls h (i : Int) (k : Int) (by omega)).mono ?_
  rintro e w' ⟨er, T', rfl, hr, ha, ho⟩
  rcases hr with ⟨g, _⟩ | ⟨_, g, _⟩ | ⟨_, _, _, ⟨j, g1, g2, g3⟩, _⟩ | ⟨_, _, _, _, rfl, rfl⟩
  · omega
  · omega
  · rw [h2 j (by omega) (by omega)] at g3
    exact absurd g3 (by simp)
  · rw [Int.toNat_natCast, Int.toNat_natCast] at ha
    exact ⟨rfl, ha, ho⟩
theorem Give_not {w : World} {p q n : Nat} {T : Nat → Bool} (h : IsAlloc w p q n T) (i k : Nat) (hk : 1 ≤ k) (hm : k < 9223372036854775808) (hn : i + k ≤ n) (j : Nat) (h1 : i ≤ j) (h2 : j < i + k) (h3 : T j = false) (x y : Int) (hx : (i : Int) = x) (hy : (k : Int) = y) : Calls Try.prog 14 #[.pointer (some ⟨p, 0, none⟩), .int .i64 x, .int .i64 y] w fun e w' => e = .returned (.int .i64 7) ∧ IsAlloc w' p q n T ∧ Own q w w' := by
  subst hx hy
  refine (Give_calls h (i : Int) (k : Int) (by omega)).mono ?_
  rintro e w' ⟨er, T', rfl, hr, ha, ho⟩
  rcases hr with ⟨g, _⟩ | ⟨_, g, _⟩ | ⟨_, _, _, _, rfl, rfl⟩ | ⟨_, _, _, g, rfl, rfl⟩
  · omega
  · omega
  · exact ⟨rfl, ha, ho⟩
  · rw [g j (by omega) (by omega)] at h3
    exact absurd h3 (by simp)
end Go.Proofs.Ytagplafbdmjagaa.A
