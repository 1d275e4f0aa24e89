/- A disk in memory; New, made, Size, may, within, burn. -/
import Derived.Test.YtdjpohmgljhhcaaX5
import Derived.Test.YtdjpohmgljhhcaaX6
import Derived.Test.YtdjpohmgljhhcaaX8
import Derived.Deep.MidRow
namespace Go.Proofs.Ytdjpohmgljhhcaa.A
open Go.RowKit Go.Proofs.YtdjpohmgljhhcaaW.PrintWords Go.Proofs.YtdjpohmgljhhcaaW.PrintLast Go.Proofs.YtdjpohmgljhhcaaW.PrintMore
set_option linter.unusedVariables false
set_option maxHeartbeats 4000000
set_option maxRecDepth 100000
/-- Bytes' cells. -/
def Bytes (cs : List Value) : Prop := ∀ v ∈ cs, ∃ b : Nat, b < 256 ∧ v = .int .u8 (b : Int)
/-- A sector's cells. -/
structure Sec (cs : List Value) : Prop where
  len : cs.length = 128
  bytes : Bytes cs
/-- Pending writes' cells. -/
def flatP : List (List Value × Nat) → List Value
  | [] => []
  | x :: l => x.1 ++ .int .i64 (x.2 : Int) :: flatP l
/-- A disk: its struct at d, its sectors at kq, what is pending in a slice of the calls' own; which bytes. -/
structure DiskAt (N : Nat) (w : World) (d kq n : Nat) (pv : Value) (K : Nat → List Value) (P : List (List Value × Nat)) : Prop where
  self : w.heap[d]? = some (.cells #[.slice (some ⟨kq, 0, none⟩) n n, pv, .int .i64 (-1), .bool false] 73 (0, 0))
  kept : ∃ kc, w.heap[kq]? = some (.cells kc 85 (0, 0)) ∧ kc.size = n * 128 ∧ ∀ i j v, i < n → (K i)[j]? = some v → kc[i * 128 + j]? = some v
  sec : ∀ i, i < n → Sec (K i)
  pend : w.ownsRow N 90 129 pv P.length (flatP P)
  psec : ∀ x ∈ P, Sec x.1 ∧ x.2 < n
  bd : N ≤ d
  bk : N ≤ kq
  one : 1 ≤ n
  most : n ≤ 16384
/-- There is such a disk, with so many pending writes at most. -/
def IsDisk (N : Nat) (w : World) (d kq n : Nat) (K : Nat → List Value) (P : List (List Value × Nat)) : Prop := ∃ pv, DiskAt N w d kq n pv K P
theorem diskMade_calls {N : Nat} {w : World} {d kq n : Nat} {K : Nat → List Value} {P : List (List Value × Nat)} (h : IsDisk N w d kq n K P) : Calls Try.prog 42 #[.pointer (some ⟨d, 0, none⟩)] w fun e w' => e = .returned (.bool true) ∧ w' = w := by
  obtain ⟨pv, h⟩ := h
  have hc0 : w.cell? ⟨d, 0, none⟩ = some (.slice (some ⟨kq, 0, none⟩) n n) := (blk_cell h.self 0).trans rfl
  have h1 : (0 : Int) < (n : Int) := by have := h.one; omega
  have h3 : 0 < n := h.one
  clear h
  go_enter Try.func42, Try.ntmps42
  go_wp2
  go_ret
  exact ⟨rfl, rfl⟩
theorem diskMade_nil (w : World) : Calls Try.prog 42 #[.pointer none] w fun e w' => e = .returned (.bool false) ∧ w' = w := by
  go_enter Try.func42, Try.ntmps42
  go_wp2
  go_ret
  exact ⟨rfl, rfl⟩
theorem diskSize_calls {N : Nat} {w : World} {d kq n : Nat} {K : Nat → List Value} {P : List (List Value × Nat)} (h : IsDisk N w d kq n K P) : Calls Try.prog 33 #[.pointer (some ⟨d, 0, none⟩)] w fun e w' => e = .returned (.int .i64 (n : Int)) ∧ w' = w := by
  have H := Aside0.mk h
  obtain ⟨pv, h⟩ := h
  have hc0 : w.cell? ⟨d, 0, none⟩ = some (.slice (some ⟨kq, 0, none⟩) n n) := (blk_cell h.self 0).trans rfl
  clear h
  go_enter Try.func33, Try.ntmps33
  go_wp2_with (first | (go_at_call 42; (with_reducible refine (diskMade_calls H.out).mono ?_); rintro e w1 ⟨rfl, rfl⟩))
  go_ret
  exact ⟨rfl, rfl⟩
theorem diskSize_nil (w : World) : Calls Try.prog 33 #[.pointer none] w fun e w' => e = .returned (.int .i64 0) ∧ w' = w := by
  go_enter Try.func33, Try.ntmps33
  go_wp2_with (first | (go_at_call 42; (with_reducible refine (diskMade_nil _).mono ?_); rintro e w1 ⟨rfl, rfl⟩))
  go_ret
  exact ⟨rfl, rfl⟩
theorem may_calls {N : Nat} {w : World} {d kq n : Nat} {K : Nat → List Value} {P : List (List Value × Nat)} (h : IsDisk N w d kq n K P) : Calls Try.prog 56 #[.pointer (some ⟨d, 0, none⟩)] w fun e w' => e = .returned (.int .i64 0) ∧ w' = w := by
  have H := Aside0.mk h
  obtain ⟨pv, h⟩ := h
  have hc0 : w.cell? ⟨d, 3, none⟩ = some (.bool false) := (blk_cell h.self 3).trans rfl
  clear h
  go_enter Try.func56, Try.ntmps56
  go_wp2_with (first | (go_at_call 42; (with_reducible refine (diskMade_calls H.out).mono ?_); rintro e w1 ⟨rfl, rfl⟩))
  go_ret
  exact ⟨rfl, rfl⟩
theorem within_calls {N : Nat} {w : World} {d kq n : Nat} {K : Nat → List Value} {P : List (List Value × Nat)} (h : IsDisk N w d kq n K P) (i : Nat) (hi : i < n) (x : Int) (hx : (i : Int) = x) : Calls Try.prog 49 #[.pointer (some ⟨d, 0, none⟩), .int .i64 x] w fun e w' => e = .returned (.int .i64 0) ∧ w' = w := by
  subst hx
  have H := Aside0.mk h
  obtain ⟨pv, h⟩ := h
  have hc0 : w.cell? ⟨d, 0, none⟩ = some (.slice (some ⟨kq, 0, none⟩) n n) := (blk_cell h.self 0).trans rfl
  have h0 : (0 : Int) ≤ (i : Int) := by omega
  have h1 : (i : Int) < (n : Int) := by omega
  have h2 : ¬ (n : Int) ≤ (i : Int) := by omega
  have h3 : ¬ n ≤ i := by omega
  clear h
  go_enter Try.func49, Try.ntmps49
  go_wp2_with (first | (go_at_call 56; (with_reducible refine (may_calls H.out).mono ?_); rintro e w1 ⟨rfl, rfl⟩))
  go_ret
  exact ⟨rfl, rfl⟩
theorem burn_calls {N : Nat} {w : World} {d kq n : Nat} {K : Nat → List Value} {P : List (List Value × Nat)} (h : IsDisk N w d kq n K P) : Calls Try.prog 55 #[.pointer (some ⟨d, 0, none⟩)] w fun e w' => e = .returned (.int .i64 0) ∧ w' = w := by
  obtain ⟨pv, h⟩ := h
  have hc0 : w.cell? ⟨d, 2, none⟩ = some (.int .i64 (-1)) := (blk_cell h.self 2).trans rfl
  clear h
  go_enter Try.func55, Try.ntmps55
  go_wp2
  go_ret
  exact ⟨rfl, rfl⟩
end Go.Proofs.Ytdjpohmgljhhcaa.A
