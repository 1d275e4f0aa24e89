/- An alloc in memory; bit, made and is. -/
import Derived.Test.YtdjpohmgljhhcaaProg
import Derived.Below
import Derived.Deep.Draws
import Derived.Deep.AppendLies
import Derived.Maps.AppendAt
import Derived.OwnWalk
import Derived.Laws.BytesArg
import Derived.Laws.MakeOwn
import Derived.Laws.OwnMore
import Derived.Deep.OwnRows
import Derived.Tactics
import Derived.Lib.ConvBytes
import Derived.Laws.Slices
import Derived.WalkKit
import Derived.KernelRfl
import Derived.RowKit3
import Derived.Deep.LoopGhost
import Derived.Deep.QuietTactic
import Derived.BigQuiet
import Derived.WideLaws
import Derived.Deep.DeepCutAuto
import Derived.Deep.CutBlock
import Derived.Deep.RegionHeld3
import Derived.Laws.Rows
import Derived.Lib.AppendStr
import Derived.ArgAppend
import Derived.Laws.IdiomCopy
import Derived.OrdersHeld
import Derived.Laws.BitsLemmas
import Derived.RowKit
import Derived.Laws.Cover1
import Derived.Deep.RegionWith
import Derived.Deep.RegionLaw
import Derived.WalkMore
import Derived.ScopeJumps
import Derived.Test.YtdjpohmgljhhcaaWWords
import Derived.Test.YtdjpohmgljhhcaaWLast
import Derived.Test.YtdjpohmgljhhcaaWTab
import Derived.Test.YtdjpohmgljhhcaaWFour
import Derived.Test.YtdjpohmgljhhcaaWQPut
import Derived.Test.YtdjpohmgljhhcaaWApart
import Derived.Test.YtdjpohmgljhhcaaWArr
import Derived.Test.YtdjpohmgljhhcaaWZeros
import Derived.Test.YtdjpohmgljhhcaaWFoot
import Derived.Test.YtdjpohmgljhhcaaWKept
import Derived.Test.YtdjpohmgljhhcaaWShare
import Derived.Test.YtdjpohmgljhhcaaWN
import Derived.Test.YtdjpohmgljhhcaaWFootNe
import Derived.Test.YtdjpohmgljhhcaaWAt
import Derived.Test.YtdjpohmgljhhcaaWEqStruct
import Derived.Test.YtdjpohmgljhhcaaWRepsOne
import Derived.Test.YtdjpohmgljhhcaaWInv
import Derived.Test.YtdjpohmgljhhcaaWInvWords
import Derived.Test.YtdjpohmgljhhcaaWGuard
import Derived.Test.YtdjpohmgljhhcaaWNEv
import Derived.Test.YtdjpohmgljhhcaaWMore
import Derived.Laws.BitsAllLaws
namespace Go.Proofs.Ytdjpohmgljhhcaa.A
open Go.RowKit Go.Proofs.YtdjpohmgljhhcaaW.PrintWords Go.Proofs.YtdjpohmgljhhcaaW.PrintLast Go.Proofs.YtdjpohmgljhhcaaW.PrintMore
set_option linter.unusedVariables false
/-- How many words so many pages have. -/
def wordsOf (n : Nat) : Nat := (n + 63) / 64
/-- An alloc's two blocks: it itself at p, its words at q; which pages are taken. -/
structure AllocAt (w : World) (p q n : Nat) (T : Nat → Bool) (c : Nat) (cells : Array Value) (u : Nat → Nat) : Prop where
  self : w.heap[p]? = some (.cells #[.int .i64 (n : Int), .slice (some ⟨q, 0, none⟩) (wordsOf n) c] 76 (0, 0))
  words : w.heap[q]? = some (.cells cells 77 (0, 0))
  cap : wordsOf n ≤ c
  cell : ∀ i, i < wordsOf n → cells[i]? = some (.int .u64 (u i : Int))
  lt : ∀ i, u i < 18446744073709551616
  bit : ∀ i j, i < wordsOf n → j < 64 → (u i).testBit j = T (64 * i + j)
  out : ∀ x, n ≤ x → T x = false
  apart : p ≠ q
  one : 1 ≤ n
  most : n ≤ 16384
/-- An alloc of n pages, of which these are taken. -/
def IsAlloc (w : World) (p q n : Nat) (T : Nat → Bool) : Prop := ∃ c cells u, AllocAt w p q n T c cells u
theorem IsAlloc.grown {w w' : World} {p q n : Nat} {T : Nat → Bool} (h : IsAlloc w p q n T) (hg : Below w.heap.size w w') : IsAlloc w' p q n T := by
  obtain ⟨c, cells, u, h⟩ := h
  exact ⟨c, cells, u, blk_below h.self hg, blk_below h.words hg, h.cap, h.cell, h.lt, h.bit, h.out, h.apart, h.one, h.most⟩
theorem IsAlloc.drawn {w w' : World} {p q n : Nat} {T : Nat → Bool} (h : IsAlloc w p q n T) (hg : Drawn0 w w') : IsAlloc w' p q n T := h.grown hg.below
theorem bit_two (i : Nat) : IntKind.u64.wrap ((2 : Int) ^ (i % 64)) = ((2 ^ (i % 64) : Nat) : Int) := by
  have hl : 2 ^ (i % 64) ≤ 2 ^ 63 := Nat.pow_le_pow_right (by decide) (by omega)
  have e3 : (2 : Int) ^ (i % 64) = ((2 ^ (i % 64) : Nat) : Int) := (Int.natCast_pow 2 _).symm
  rw [e3]
  generalize 2 ^ (i % 64) = P at *
  have e2 : IntKind.u64.wrap (P : Int) = (P : Int) % 18446744073709551616 := by simp [IntKind.wrap, IntKind.bits, IntKind.signed]
  rw [e2]
  omega
set_option maxHeartbeats 1000000 in
set_option maxRecDepth 100000 in
theorem bit_calls (i W B : Nat) (hi : i ≤ 1048576) (hW : i / 64 = W) (hB : 2 ^ (i % 64) = B) (w : World) : Calls Try.prog 53 #[.int .i64 (i : Int)] w fun e w' => e = .returned (.tuple #[.int .i64 (W : Int), .int .u64 (B : Int)]) ∧ Drawn0 w w' := by
  have h0 : (0 : Int) ≤ (i : Int) := by omega
  have h1 : (0 : Int) ≤ (i : Int) % 64 := by omega
  have h2 : (i : Int) % 64 ≤ 64 := by omega
  have h3 : (i : Int) ≤ 1048576 := by omega
  have HB := Aside0.mk (bit_two i)
  have HD := Aside0.mk (show (i : Int) / 64 = ((i / 64 : Nat) : Int) by omega)
  subst hW hB
  clear hi
  go_enter Try.func53, Try.ntmps53
  go_wp2
  go_quiet (fail)
  go_wp2
  go_ret2
  exact ⟨by rw [← HB.out, ← HD.out]; rfl, ⟨⟨_, rfl⟩⟩⟩
/-- What a page's bit tells. -/
theorem bit_test (u j : Nat) (hu : u < 18446744073709551616) (hj : j < 64) : (bits .and .u64 (u : Int) ((2 ^ j : Nat) : Int) != 0) = u.testBit j := by
  have hl : 2 ^ j < 18446744073709551616 := by
    have : 2 ^ j < 2 ^ 64 := Nat.pow_lt_pow_right (by decide) hj
    exact this
  rw [u64_and_nat u (2 ^ j) hu hl, nat_bit]
  have hp : 0 < 2 ^ j := Nat.two_pow_pos j
  have ht : u.testBit j = decide (u / 2 ^ j % 2 = 1) := Nat.testBit_eq_decide_div_mod_eq
  rw [ht]
  rcases Nat.mod_two_eq_zero_or_one (u / 2 ^ j) with e | e
  · rw [e, Nat.zero_mul]
    rfl
  · rw [e, Nat.one_mul]
    generalize 2 ^ j = P at *
    have h2 : (P : Int) ≠ 0 := by omega
    rw [show ((P : Int) != 0) = true from bne_iff_ne.2 h2]
    rfl
set_option maxHeartbeats 1000000 in
set_option maxRecDepth 100000 in
theorem is_calls {w : World} {p q n : Nat} {T : Nat → Bool} (h : IsAlloc w p q n T) (i : Nat) (hi : i < n) (x : Int) (hx : (i : Int) = x) : Calls Try.prog 48 #[.pointer (some ⟨p, 0, none⟩), .int .i64 x] w fun e w' => e = .returned (.bool (T i)) ∧ Drawn0 w w' := by
  subst hx
  obtain ⟨c, cells, u, h⟩ := h
  obtain ⟨W, hWe⟩ : ∃ W, i / 64 = W := ⟨_, rfl⟩
  obtain ⟨B, hBe⟩ : ∃ B, 2 ^ (i % 64) = B := ⟨_, rfl⟩
  have hW : W < wordsOf n := by unfold wordsOf; omega
  have hc1 : w.cell? ⟨p, 1, none⟩ = some (.slice (some ⟨q, 0, none⟩) (wordsOf n) c) := (blk_cell h.self 1).trans rfl
  have hcq : w.cell? ⟨q, W, none⟩ = some (.int .u64 (u W : Int)) := (blk_cell h.words W).trans (h.cell _ hW)
  have HT := Aside0.mk (show (bits .and .u64 (u W : Int) (B : Int) != 0) = T i by
    rw [← hBe, bit_test _ _ (h.lt _) (Nat.mod_lt _ (by decide)), h.bit _ _ hW (Nat.mod_lt _ (by decide)), ← hWe, Nat.div_add_mod])
  have hb0 : (0 : Int) ≤ (W : Int) := by omega
  have hb1 : (W : Int) < (wordsOf n : Int) := by omega
  have hn := h.most
  have HI := Aside0.mk (show i ≤ 1048576 by omega)
  have HW := Aside0.mk hWe
  have HB := Aside0.mk hBe
  clear hW h hn hi hWe hBe
  generalize u W = uW at *
  go_enter Try.func48, Try.ntmps48
  go_wp2_with (first | (go_at_call 53; (with_reducible refine (bit_calls i W B HI.out HW.out HB.out _).mono ?_); rintro e w1 ⟨rfl, ⟨m1, rfl⟩⟩))
  go_ret
  exact ⟨by rw [HT.out]; rfl, ⟨⟨_, rfl⟩⟩⟩
end Go.Proofs.Ytdjpohmgljhhcaa.A
