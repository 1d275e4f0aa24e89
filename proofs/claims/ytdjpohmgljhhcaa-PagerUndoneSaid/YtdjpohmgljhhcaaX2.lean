/- made, run, find. -/
import Derived.Test.YtdjpohmgljhhcaaX1
import Derived.Test.YtdjpohmgljhhcaaProg
import Derived.Below
import Derived.Deep.Draws
import Derived.Deep.AppendLies
import Derived.Maps.AppendAt
import Derived.OwnWalk
import Derived.Laws.BytesArg
import Derived.Laws.MakeOwn
import Derived.Laws.OwnMore
import Derived.Deep.OwnRows
import Derived.Tactics
import Derived.Lib.ConvBytes
import Derived.Laws.Slices
import Derived.WalkKit
import Derived.KernelRfl
import Derived.RowKit3
import Derived.Deep.LoopGhost
import Derived.Deep.QuietTactic
import Derived.BigQuiet
import Derived.WideLaws
import Derived.Deep.DeepCutAuto
import Derived.Deep.CutBlock
import Derived.Deep.RegionHeld3
import Derived.Laws.Rows
import Derived.Lib.AppendStr
import Derived.ArgAppend
import Derived.Laws.IdiomCopy
import Derived.OrdersHeld
import Derived.Laws.BitsLemmas
import Derived.RowKit
import Derived.Laws.Cover1
import Derived.Deep.RegionWith
import Derived.Deep.RegionLaw
import Derived.WalkMore
import Derived.ScopeJumps
import Derived.Test.YtdjpohmgljhhcaaWWords
import Derived.Test.YtdjpohmgljhhcaaWLast
import Derived.Test.YtdjpohmgljhhcaaWTab
import Derived.Test.YtdjpohmgljhhcaaWFour
import Derived.Test.YtdjpohmgljhhcaaWQPut
import Derived.Test.YtdjpohmgljhhcaaWApart
import Derived.Test.YtdjpohmgljhhcaaWArr
import Derived.Test.YtdjpohmgljhhcaaWZeros
import Derived.Test.YtdjpohmgljhhcaaWFoot
import Derived.Test.YtdjpohmgljhhcaaWKept
import Derived.Test.YtdjpohmgljhhcaaWShare
import Derived.Test.YtdjpohmgljhhcaaWN
import Derived.Test.YtdjpohmgljhhcaaWFootNe
import Derived.Test.YtdjpohmgljhhcaaWAt
import Derived.Test.YtdjpohmgljhhcaaWEqStruct
import Derived.Test.YtdjpohmgljhhcaaWRepsOne
import Derived.Test.YtdjpohmgljhhcaaWInv
import Derived.Test.YtdjpohmgljhhcaaWInvWords
import Derived.Test.YtdjpohmgljhhcaaWGuard
import Derived.Test.YtdjpohmgljhhcaaWNEv
import Derived.Test.YtdjpohmgljhhcaaWMore
import Derived.Laws.BitsAllLaws
namespace Go.Proofs.Ytdjpohmgljhhcaa.A
open Go.RowKit Go.Proofs.YtdjpohmgljhhcaaW.PrintWords Go.Proofs.YtdjpohmgljhhcaaW.PrintLast Go.Proofs.YtdjpohmgljhhcaaW.PrintMore
set_option linter.unusedVariables false
set_option maxHeartbeats 1000000
set_option maxRecDepth 100000
theorem made_calls {w : World} {p q n : Nat} {T : Nat → Bool} (h : IsAlloc w p q n T) : Calls Try.prog 40 #[.pointer (some ⟨p, 0, none⟩)] w fun e w' => e = .returned (.bool true) ∧ w' = w := by
  obtain ⟨c, cells, u, h⟩ := h
  have hc0 : w.cell? ⟨p, 0, none⟩ = some (.int .i64 (n : Int)) := (blk_cell h.self 0).trans rfl
  have h1 : (0 : Int) < (n : Int) := by have := h.one; omega
  have h3 : 0 < n := h.one
  have h2 : ¬ (n : Int) = 0 := by omega
  clear h
  go_enter Try.func40, Try.ntmps40
  go_wp2
  go_ret
  exact ⟨rfl, rfl⟩
theorem made_nil (w : World) : Calls Try.prog 40 #[.pointer none] w fun e w' => e = .returned (.bool false) ∧ w' = w := by
  go_enter Try.func40, Try.ntmps40
  go_wp2
  go_ret
  exact ⟨rfl, rfl⟩
theorem made_zero (w : World) (p : Nat) (v : Value) (h : w.heap[p]? = some (.cells #[.int .i64 0, v] 76 (0, 0))) : Calls Try.prog 40 #[.pointer (some ⟨p, 0, none⟩)] w fun e w' => e = .returned (.bool false) ∧ w' = w := by
  have hc0 : w.cell? ⟨p, 0, none⟩ = some (.int .i64 0) := (blk_cell h 0).trans rfl
  clear h
  go_enter Try.func40, Try.ntmps40
  go_wp2
  go_ret
  exact ⟨rfl, rfl⟩
/-- How many pages from one on are free, of so many. -/
def freeFrom (T : Nat → Bool) : Nat → Nat → Nat
  | _, 0 => 0
  | i, d + 1 => if T i then 0 else freeFrom T (i + 1) d + 1
theorem freeFrom_on {T : Nat → Bool} {i d : Nat} (h : T i = false) (hd : 0 < d) : freeFrom T i d = 1 + freeFrom T (i + 1) (d - 1) := by
  obtain ⟨d, rfl⟩ : ∃ e, d = e + 1 := ⟨d - 1, by omega⟩
  rw [freeFrom, if_neg (by simp [h]), Nat.add_sub_cancel, Nat.add_comm]
theorem freeFrom_off {T : Nat → Bool} {i d : Nat} (h : T i = true) : freeFrom T i d = 0 := by
  cases d <;> simp [freeFrom, h]
theorem run_calls {w : World} {p q n : Nat} {T : Nat → Bool} (h : IsAlloc w p q n T) (i most : Nat) (hi : i ≤ n) (hm : most < 9223372036854775808) (x y : Int) (hx : (i : Int) = x) (hy : (most : Int) = y) (M : Nat) (hM : min most (freeFrom T i (n - i)) = M) : Calls Try.prog 54 #[.pointer (some ⟨p, 0, none⟩), .int .i64 x, .int .i64 y] w fun e w' => e = .returned (.int .i64 (M : Int)) ∧ Drawn0 w w' := by
  subst hx hy
  have HM := Aside0.mk hM
  clear hM
  have HA := Aside0.mk h
  have hc0 : w.cell? ⟨p, 0, none⟩ = some (.int .i64 (n : Int)) := by
    obtain ⟨c, cells, u, h⟩ := h
    exact (blk_cell h.self 0).trans rfl
  have hn : n ≤ 16384 := by
    obtain ⟨c, cells, u, h⟩ := h
    exact h.most
  clear h
  go_enter Try.func54, Try.ntmps54
  go_wp2
  go_loopw [7] (fun vk wr => ∃ k : Nat, vk = .int .i64 k ∧ k ≤ most ∧ i + k ≤ n ∧ Aside0 (freeFrom T i (n - i) = k + freeFrom T (i + k) (n - i - k)) ∧ Drawn0 w wr) (fun vk _ => n - (intOf vk).toNat)
  case atStart => exact ⟨0, rfl, Nat.zero_le _, by omega, ⟨by simp⟩, by repeat (first | exact Drawn0.refl _ | apply Drawn0.step)⟩
  case round =>
    obtain ⟨k, rfl, hk1, hk2, HF, ⟨nd, rfl⟩⟩ := hrel
    by_cases g1 : k < most
    · by_cases g2 : i + k < n
      · have g2i : (i : Int) + (k : Int) < (n : Int) := by omega
        by_cases g3 : T (i + k) = true
        · have HE := Aside0.mk (show min most (freeFrom T i (n - i)) = k by rw [HF.out, freeFrom_off g3]; omega)
          have HX := Aside0.mk (show ((i + k : Nat) : Int) = (i : Int) + (k : Int) by omega)
          have HG := Aside0.mk g2
          go_wp2_with (first | (go_at_call 48; (with_reducible refine (is_calls (HA.out.drawn (by repeat (first | exact Drawn0.refl _ | apply Drawn0.step))) (i + k) HG.out _ HX.out).mono ?_); rintro e w1 ⟨rfl, ⟨m1, rfl⟩⟩))
          go_ret
          exact ⟨by rw [← HM.out, HE.out]; rfl, ⟨⟨_, rfl⟩⟩⟩
        · have g3f : T (i + k) = false := by simpa using g3
          have HE := Aside0.mk (show freeFrom T i (n - i) = (k + 1) + freeFrom T (i + (k + 1)) (n - i - (k + 1)) by rw [HF.out, freeFrom_on g3f (by omega)]; rw [Nat.sub_sub (n - i), Nat.add_assoc k 1, Nat.add_assoc i k 1])
          have HX := Aside0.mk (show ((i + k : Nat) : Int) = (i : Int) + (k : Int) by omega)
          have HG := Aside0.mk g2
          go_wp2_with (first | (go_at_call 48; (with_reducible refine (is_calls (HA.out.drawn (by repeat (first | exact Drawn0.refl _ | apply Drawn0.step))) (i + k) HG.out _ HX.out).mono ?_); rintro e w1 ⟨rfl, ⟨m1, rfl⟩⟩))
          exact ⟨⟨k + 1, by go_num, by omega, by omega, HE, ⟨⟨_, rfl⟩⟩⟩, by simp [intOf]; omega⟩
      · have g2i : ¬ (i : Int) + (k : Int) < (n : Int) := by omega
        have HE := Aside0.mk (show min most (freeFrom T i (n - i)) = k by
          rw [HF.out, show n - i - k = 0 by omega]
          simp only [freeFrom]
          omega)
        go_wp2
        go_ret
        exact ⟨by rw [← HM.out, HE.out]; rfl, ⟨⟨_, rfl⟩⟩⟩
    · have HE := Aside0.mk (show min most (freeFrom T i (n - i)) = k by rw [HF.out]; omega)
      go_wp2
      go_ret
      exact ⟨by rw [← HM.out, HE.out]; rfl, ⟨⟨_, rfl⟩⟩⟩
/-- The first row of so many free pages, from one on, as the program looks for it. -/
def RowAt (T : Nat → Bool) (n i k : Nat) : Prop := i + k ≤ n ∧ ∀ j, i ≤ j → j < i + k → T j = false
theorem freeFrom_le (T : Nat → Bool) (i d : Nat) : freeFrom T i d ≤ d := by
  induction d generalizing i with
  | zero => simp [freeFrom]
  | succ d ih => rw [freeFrom]; split; omega; have := ih (i + 1); omega
theorem freeFrom_free (T : Nat → Bool) (i d j : Nat) (h1 : i ≤ j) (h2 : j < i + freeFrom T i d) : T j = false := by
  induction d generalizing i with
  | zero => simp [freeFrom] at h2; omega
  | succ d ih =>
    rw [freeFrom] at h2
    split at h2
    · omega
    · rename_i hT
      by_cases hj : j = i
      · subst hj; simpa using hT
      · exact ih (i + 1) (by omega) (by omega)
theorem freeFrom_end (T : Nat → Bool) (i d : Nat) (h : freeFrom T i d < d) : T (i + freeFrom T i d) = true := by
  induction d generalizing i with
  | zero => omega
  | succ d ih =>
    rw [freeFrom] at h ⊢
    split at h
    · rename_i hT; rw [if_pos hT]; simpa using hT
    · rename_i hT
      rw [if_neg hT]
      have := ih (i + 1) (by omega)
      rwa [show i + (freeFrom T (i + 1) d + 1) = i + 1 + freeFrom T (i + 1) d by omega]
/-- A row begins where so many are free. -/
theorem rowAt_free {T : Nat → Bool} {n i k : Nat} (hi : i ≤ n) (h : k ≤ freeFrom T i (n - i)) : RowAt T n i k :=
  ⟨by have := freeFrom_le T i (n - i); omega, fun j h1 h2 => freeFrom_free T i (n - i) j h1 (by omega)⟩
/-- No row of so many begins within a shorter row, nor at its end. -/
theorem rowAt_not {T : Nat → Bool} {n i k : Nat} (hi : i < n) (hk : 1 ≤ k) (h : freeFrom T i (n - i) < k) (x : Nat) (h1 : i ≤ x) (h2 : x < i + (freeFrom T i (n - i) + 1)) : ¬ RowAt T n x k := by
  rintro ⟨r1, r2⟩
  have hl := freeFrom_le T i (n - i)
  by_cases he : freeFrom T i (n - i) < n - i
  · have := freeFrom_end T i (n - i) he
    rw [r2 _ (by omega) (by omega)] at this
    simp at this
  · omega
set_option maxHeartbeats 2000000 in
theorem find_calls {w : World} {p q n : Nat} {T : Nat → Bool} (h : IsAlloc w p q n T) (k : Nat) (hk : 1 ≤ k) (hm : k < 9223372036854775808) (y : Int) (hy : (k : Int) = y) : Calls Try.prog 45 #[.pointer (some ⟨p, 0, none⟩), .int .i64 y] w fun e w' => ((∃ i : Nat, e = .returned (.tuple #[.int .i64 i, .bool true]) ∧ RowAt T n i k ∧ ∀ x, x < i → ¬ RowAt T n x k) ∨ (e = .returned (.tuple #[.int .i64 0, .bool false]) ∧ ∀ x, ¬ RowAt T n x k)) ∧ Drawn0 w w' := by
  subst hy
  have HA := Aside0.mk h
  obtain ⟨c, cells, u, h⟩ := h
  have hc0 : w.cell? ⟨p, 0, none⟩ = some (.int .i64 (n : Int)) := (blk_cell h.self 0).trans rfl
  have hc1 : w.cell? ⟨p, 1, none⟩ = some (.slice (some ⟨q, 0, none⟩) (wordsOf n) c) := (blk_cell h.self 1).trans rfl
  have hn : n ≤ 16384 := h.most
  have HH := Aside0.mk h
  clear h
  go_enter Try.func45, Try.ntmps45
  go_wp2
  go_step3
  go_wp2
  go_step3
  go_wp2
  go_loopw [6] (fun vi wr => ∃ i : Nat, vi = .int .i64 i ∧ i ≤ n + 64 ∧ Aside0 (∀ x, x < i → ¬ RowAt T n x k) ∧ Drawn0 w wr) (fun vi _ => n - (intOf vi).toNat)
  case atStart => exact ⟨0, rfl, by omega, ⟨by intro x hx; omega⟩, by repeat (first | exact Drawn0.refl _ | apply Drawn0.step)⟩
  case round =>
    obtain ⟨i, rfl, hi, HF, ⟨nd, rfl⟩⟩ := hrel
    by_cases g1 : i < n
    · obtain ⟨W, hWe⟩ : ∃ W, i / 64 = W := ⟨_, rfl⟩
      obtain ⟨B, hBe⟩ : ∃ B, 2 ^ (i % 64) = B := ⟨_, rfl⟩
      have hW : W < wordsOf n := by unfold wordsOf; omega
      have hcq : w.cell? ⟨q, W, none⟩ = some (.int .u64 (u W : Int)) := (blk_cell HH.out.words W).trans (HH.out.cell _ hW)
      have hb0 : (0 : Int) ≤ (W : Int) := by omega
      have hb1 : (W : Int) < (wordsOf n : Int) := by omega
      have HI := Aside0.mk (show i ≤ 1048576 by omega)
      have HWe := Aside0.mk hWe
      have HBe := Aside0.mk hBe
      have HWb := Aside0.mk hW
      clear hWe hBe hW
      by_cases g2 : i % 64 = 0 ∧ u W = 18446744073709551615
      · obtain ⟨g2a, g2b⟩ := g2
        have g2c : (i : Int) % 64 = 0 := by omega
        have HN := Aside0.mk (show ∀ x, x < i + 64 → ¬ RowAt T n x k by
          intro x hx
          by_cases h5 : x < i
          · exact HF.out x h5
          · rintro ⟨r1, r2⟩
            have hb := HH.out.bit W (x - i) HWb.out (by omega)
            rw [g2b, show (18446744073709551615 : Nat) = 2 ^ 64 - 1 from rfl, Nat.testBit_two_pow_sub_one, ← HWe.out] at hb
            rw [show 64 * (i / 64) + (x - i) = x by omega, r2 x (by omega) (by omega)] at hb
            simp at hb
            omega)
        rw [g2b] at hcq
        go_wp2_with (first | (go_at_call 53; (with_reducible refine (bit_calls i W B HI.out HWe.out HBe.out _).mono ?_); rintro e w1 ⟨rfl, ⟨m1, rfl⟩⟩))
        exact ⟨⟨i + 64, by go_num, by omega, HN, ⟨⟨_, rfl⟩⟩⟩, by simp [intOf]; omega⟩
      · have HI2 := Aside0.mk (show i ≤ n by omega)
        have HK := Aside0.mk hm
        obtain ⟨M, hM⟩ : ∃ M, min k (freeFrom T i (n - i)) = M := ⟨_, rfl⟩
        have HMM := Aside0.mk hM
        have hv : (¬ (i : Int) % 64 = 0) ∨ ((i : Int) % 64 = 0 ∧ ¬ ((u W : Nat) : Int) = 18446744073709551615) := by omega
        generalize u W = uW at *
        clear g2
        by_cases g4 : k ≤ freeFrom T i (n - i)
        · have hMk : M = k := by omega
          have HR := Aside0.mk (rowAt_free HI2.out g4)
          clear g4 hM
          subst hMk
          rcases hv with hv | ⟨hv, hv2⟩ <;>
          · go_wp2_with (first | (go_at_call 53; (with_reducible refine (bit_calls i W B HI.out HWe.out HBe.out _).mono ?_); rintro e w1 ⟨rfl, ⟨m1, rfl⟩⟩) | (go_at_call 54; (with_reducible refine (run_calls (HA.out.drawn (by repeat (first | exact Drawn0.refl _ | apply Drawn0.step))) i M HI2.out HK.out _ _ rfl rfl M HMM.out).mono ?_); rintro e w1 ⟨rfl, ⟨m2, rfl⟩⟩))
            rw [Exit.noGoto_ret]
            go_ret2
            exact ⟨Or.inl ⟨i, rfl, HR.out, HF.out⟩, ⟨⟨_, rfl⟩⟩⟩
        · have hMk : M = freeFrom T i (n - i) := by omega
          have HN := Aside0.mk (show ∀ x, x < i + (M + 1) → ¬ RowAt T n x k by
            intro x hx
            by_cases h5 : x < i
            · exact HF.out x h5
            · exact rowAt_not g1 hk (by omega) x (by omega) (by omega))
          have hMn : i + M ≤ n := by have := freeFrom_le T i (n - i); omega
          have hMc : ¬ (M : Int) = (k : Int) := by omega
          have hMc2 : ¬ M = k := by omega
          clear g4 hM hMk
          rcases hv with hv | ⟨hv, hv2⟩ <;>
          · go_wp2_with (first | (go_at_call 53; (with_reducible refine (bit_calls i W B HI.out HWe.out HBe.out _).mono ?_); rintro e w1 ⟨rfl, ⟨m1, rfl⟩⟩) | (go_at_call 54; (with_reducible refine (run_calls (HA.out.drawn (by repeat (first | exact Drawn0.refl _ | apply Drawn0.step))) i k HI2.out HK.out _ _ rfl rfl M HMM.out).mono ?_); rintro e w1 ⟨rfl, ⟨m2, rfl⟩⟩))
            exact ⟨⟨i + (M + 1), by go_num, by omega, HN, ⟨⟨_, rfl⟩⟩⟩, by simp [intOf]; omega⟩
    · have HN := Aside0.mk (show ∀ x, ¬ RowAt T n x k by
        intro x
        by_cases h5 : x < i
        · exact HF.out x h5
        · rintro ⟨r1, r2⟩; omega)
      go_wp2
      rw [Exit.noGoto_ret]
      go_ret2
      exact ⟨Or.inr ⟨rfl, HN.out⟩, ⟨⟨_, rfl⟩⟩⟩
end Go.Proofs.Ytdjpohmgljhhcaa.A
