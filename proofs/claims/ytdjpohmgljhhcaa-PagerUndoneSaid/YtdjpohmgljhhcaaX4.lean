/- Take, Claim, Give, Has. -/
import Derived.Test.YtdjpohmgljhhcaaX3
import Derived.Below
import Derived.Deep.Draws
import Derived.Deep.AppendLies
import Derived.Maps.AppendAt
import Derived.OwnWalk
import Derived.Laws.BytesArg
import Derived.Laws.MakeOwn
import Derived.Laws.OwnMore
import Derived.Deep.OwnRows
import Derived.Tactics
import Derived.Lib.ConvBytes
import Derived.Laws.Slices
import Derived.WalkKit
import Derived.KernelRfl
import Derived.RowKit3
import Derived.Deep.LoopGhost
import Derived.Deep.QuietTactic
import Derived.BigQuiet
import Derived.WideLaws
import Derived.Deep.DeepCutAuto
import Derived.Deep.CutBlock
import Derived.Deep.RegionHeld3
import Derived.Laws.Rows
import Derived.Lib.AppendStr
import Derived.ArgAppend
import Derived.Laws.IdiomCopy
import Derived.OrdersHeld
import Derived.Laws.BitsLemmas
import Derived.RowKit
import Derived.Laws.Cover1
import Derived.Deep.RegionWith
import Derived.Deep.RegionLaw
import Derived.WalkMore
import Derived.ScopeJumps
import Derived.Test.YtdjpohmgljhhcaaWWords
import Derived.Test.YtdjpohmgljhhcaaWLast
import Derived.Test.YtdjpohmgljhhcaaWTab
import Derived.Test.YtdjpohmgljhhcaaWFour
import Derived.Test.YtdjpohmgljhhcaaWQPut
import Derived.Test.YtdjpohmgljhhcaaWApart
import Derived.Test.YtdjpohmgljhhcaaWArr
import Derived.Test.YtdjpohmgljhhcaaWZeros
import Derived.Test.YtdjpohmgljhhcaaWFoot
import Derived.Test.YtdjpohmgljhhcaaWKept
import Derived.Test.YtdjpohmgljhhcaaWShare
import Derived.Test.YtdjpohmgljhhcaaWN
import Derived.Test.YtdjpohmgljhhcaaWFootNe
import Derived.Test.YtdjpohmgljhhcaaWAt
import Derived.Test.YtdjpohmgljhhcaaWEqStruct
import Derived.Test.YtdjpohmgljhhcaaWRepsOne
import Derived.Test.YtdjpohmgljhhcaaWInv
import Derived.Test.YtdjpohmgljhhcaaWInvWords
import Derived.Test.YtdjpohmgljhhcaaWGuard
import Derived.Test.YtdjpohmgljhhcaaWNEv
import Derived.Test.YtdjpohmgljhhcaaWMore
import Derived.Laws.BitsAllLaws
namespace Go.Proofs.Ytdjpohmgljhhcaa.A
open Go.RowKit Go.Proofs.YtdjpohmgljhhcaaW.PrintWords Go.Proofs.YtdjpohmgljhhcaaW.PrintLast Go.Proofs.YtdjpohmgljhhcaaW.PrintMore
set_option linter.unusedVariables false
set_option maxHeartbeats 4000000
set_option maxRecDepth 100000
/-- What Take tells. -/
def TakeR (T : Nat → Bool) (n : Nat) (k : Int) (i : Nat) (e : Int) (T' : Nat → Bool) : Prop :=
  (k < 1 ∧ i = 0 ∧ e = 2 ∧ T' = T) ∨ (1 ≤ k ∧ RowAt T n i k.toNat ∧ (∀ x, x < i → ¬ RowAt T n x k.toNat) ∧ e = 0 ∧ T' = setT T i k.toNat true) ∨ (1 ≤ k ∧ (∀ x, ¬ RowAt T n x k.toNat) ∧ i = 0 ∧ e = 10 ∧ T' = T)
/-- What Claim tells. -/
def ClaimR (T : Nat → Bool) (n : Nat) (i : Int) (e : Int) (T' : Nat → Bool) : Prop :=
  ((i < 0 ∨ (n : Int) ≤ i) ∧ e = 6 ∧ T' = T) ∨ (0 ≤ i ∧ i < n ∧ T i.toNat = true ∧ e = 8 ∧ T' = T) ∨ (0 ≤ i ∧ i < n ∧ T i.toNat = false ∧ e = 0 ∧ T' = setT T i.toNat 1 true)
/-- What Give tells. -/
def GiveR (T : Nat → Bool) (n : Nat) (i k : Int) (e : Int) (T' : Nat → Bool) : Prop :=
  (k < 1 ∧ e = 2 ∧ T' = T) ∨ (1 ≤ k ∧ (i < 0 ∨ (n : Int) < k ∨ (n : Int) - k < i) ∧ e = 6 ∧ T' = T) ∨ (1 ≤ k ∧ 0 ≤ i ∧ i + k ≤ n ∧ (∃ j : Nat, i ≤ j ∧ (j : Int) < i + k ∧ T j = false) ∧ e = 7 ∧ T' = T) ∨ (1 ≤ k ∧ 0 ≤ i ∧ i + k ≤ n ∧ (∀ j : Nat, i ≤ j → (j : Int) < i + k → T j = true) ∧ e = 0 ∧ T' = setT T i.toNat k.toNat false)
theorem row_least {T : Nat → Bool} {n k : Nat} (x : Nat) (h : RowAt T n x k) : ∃ i, RowAt T n i k ∧ ∀ y, y < i → ¬ RowAt T n y k := by
  induction x using Nat.strongRecOn with
  | ind x ih =>
    by_cases g : ∃ y, y < x ∧ RowAt T n y k
    · obtain ⟨y, hy, hr⟩ := g
      exact ih y hy hr
    · exact ⟨x, h, fun y hy hr => g ⟨y, hy, hr⟩⟩
theorem find_some {w : World} {p q n : Nat} {T : Nat → Bool} (h : IsAlloc w p q n T) (k : Nat) (hk : 1 ≤ k) (hm : k < 9223372036854775808) (y : Int) (hy : (k : Int) = y) (i : Nat) (h1 : RowAt T n i k) (h2 : ∀ x, x < i → ¬ RowAt T n x k) : Calls Try.prog 45 #[.pointer (some ⟨p, 0, none⟩), .int .i64 y] w fun e w' => e = .returned (.tuple #[.int .i64 i, .bool true]) ∧ Drawn0 w w' := by
  refine (find_calls h k hk hm y hy).mono ?_
  rintro e w' ⟨⟨j, rfl, g1, g2⟩ | ⟨rfl, g1⟩, hd⟩
  · have : j = i := by
      rcases Nat.lt_trichotomy j i with g | g | g
      · exact absurd g1 (h2 j g)
      · exact g
      · exact absurd h1 (g2 i g)
    subst this
    exact ⟨rfl, hd⟩
  · exact absurd h1 (g1 i)
theorem find_none {w : World} {p q n : Nat} {T : Nat → Bool} (h : IsAlloc w p q n T) (k : Nat) (hk : 1 ≤ k) (hm : k < 9223372036854775808) (y : Int) (hy : (k : Int) = y) (h2 : ∀ x, ¬ RowAt T n x k) : Calls Try.prog 45 #[.pointer (some ⟨p, 0, none⟩), .int .i64 y] w fun e w' => e = .returned (.tuple #[.int .i64 0, .bool false]) ∧ Drawn0 w w' := by
  refine (find_calls h k hk hm y hy).mono ?_
  rintro e w' ⟨⟨j, rfl, g1, g2⟩ | ⟨rfl, g1⟩, hd⟩
  · exact absurd g1 (h2 j)
  · exact ⟨rfl, hd⟩
theorem Take_calls {w : World} {p q n : Nat} {T : Nat → Bool} (h : IsAlloc w p q n T) (k : Int) (hk : k < 9223372036854775808) : Calls Try.prog 27 #[.pointer (some ⟨p, 0, none⟩), .int .i64 k] w fun e w' => ∃ i er T', e = .returned (.tuple #[.int .i64 ((i : Nat) : Int), .int .i64 er]) ∧ TakeR T n k i er T' ∧ IsAlloc w' p q n T' ∧ Own q w w' := by
  have HA := Aside0.mk h
  clear h
  by_cases g1 : k < 1
  · go_enter Try.func27, Try.ntmps27
    go_wp2_with (first | (go_at_call 40; (with_reducible refine (made_calls HA.out).mono ?_); rintro e w1 ⟨rfl, rfl⟩))
    go_ret2
    exact ⟨0, 2, T, rfl, Or.inl ⟨g1, rfl, rfl, rfl⟩, HA.out, .refl _ _⟩
  · obtain ⟨K, hK⟩ : ∃ K : Nat, (K : Int) = k := ⟨k.toNat, by omega⟩
    have HT := Aside0.mk (show k.toNat = K by omega)
    have g2 : 1 ≤ k := by omega
    by_cases g3 : ∃ x, RowAt T n x K
    · obtain ⟨x, hx⟩ := g3
      obtain ⟨i, hi1, hi2⟩ := row_least x hx
      have HF := Aside0.mk (find_some HA.out K (by omega) (by omega) k hK i hi1 hi2)
      have HR := Aside0.mk (show TakeR T n k i 0 (setT T i K true) from Or.inr (Or.inl ⟨g2, by rw [HT.out]; exact hi1, by rw [HT.out]; exact hi2, rfl, by rw [HT.out]⟩))
      have HI := Aside0.mk hi1.1
      have HK := Aside0.mk hK
      clear hi1 hi2 hx hK
      go_enter Try.func27, Try.ntmps27
      go_wp2_with (first | (go_at_call 40; (with_reducible refine (made_calls HA.out).mono ?_); rintro e w1 ⟨rfl, rfl⟩) | (go_at_call 45; (with_reducible refine HF.out.mono ?_); rintro e w1 ⟨rfl, ⟨m1, rfl⟩⟩) | (go_at_call 46; (with_reducible refine (set_calls (HA.out.drawn (by repeat (first | exact Drawn0.refl _ | apply Drawn0.step))) i K HI.out true _ _ rfl HK.out).mono ?_); rintro e w2 ⟨rfl, ha, ho⟩; have HA2 := Aside0.mk ha; have HO2 := Aside0.mk ho; clear ha ho))
      go_ret2
      exact ⟨i, 0, _, rfl, HR.out, HA2.out, (Own.drawn ⟨⟨_, rfl⟩⟩).trans HO2.out⟩
    · have g4 : ∀ x, ¬ RowAt T n x K := fun x hx => g3 ⟨x, hx⟩
      have HF := Aside0.mk (find_none HA.out K (by omega) (by omega) k hK g4)
      have HR := Aside0.mk (show TakeR T n k 0 10 T from Or.inr (Or.inr ⟨g2, by rw [HT.out]; exact g4, rfl, rfl, rfl⟩))
      clear g3 g4 hK
      go_enter Try.func27, Try.ntmps27
      go_wp2_with (first | (go_at_call 40; (with_reducible refine (made_calls HA.out).mono ?_); rintro e w1 ⟨rfl, rfl⟩) | (go_at_call 45; (with_reducible refine HF.out.mono ?_); rintro e w1 ⟨rfl, ⟨m1, rfl⟩⟩))
      go_ret2
      exact ⟨0, 10, T, rfl, HR.out, HA.out.drawn ⟨⟨_, rfl⟩⟩, Own.drawn ⟨⟨_, rfl⟩⟩⟩
theorem Claim_calls {w : World} {p q n : Nat} {T : Nat → Bool} (h : IsAlloc w p q n T) (i : Int) : Calls Try.prog 39 #[.pointer (some ⟨p, 0, none⟩), .int .i64 i] w fun e w' => ∃ er T', e = .returned (.int .i64 er) ∧ ClaimR T n i er T' ∧ IsAlloc w' p q n T' ∧ Own q w w' := by
  have HA := Aside0.mk h
  have hc0 : w.cell? ⟨p, 0, none⟩ = some (.int .i64 (n : Int)) := by
    obtain ⟨c, cells, u, h⟩ := h
    exact (blk_cell h.self 0).trans rfl
  clear h
  by_cases g0 : i < 0
  · go_enter Try.func39, Try.ntmps39
    go_wp2_with (first | (go_at_call 40; (with_reducible refine (made_calls HA.out).mono ?_); rintro e w1 ⟨rfl, rfl⟩))
    go_ret
    exact ⟨6, T, rfl, Or.inl ⟨Or.inl g0, rfl, rfl⟩, HA.out, .refl _ _⟩
  · by_cases g1 : (n : Int) ≤ i
    · go_enter Try.func39, Try.ntmps39
      go_wp2_with (first | (go_at_call 40; (with_reducible refine (made_calls HA.out).mono ?_); rintro e w1 ⟨rfl, rfl⟩))
      go_ret
      exact ⟨6, T, rfl, Or.inl ⟨Or.inr g1, rfl, rfl⟩, HA.out, .refl _ _⟩
    · obtain ⟨I, rfl⟩ : ∃ I : Nat, (I : Int) = i := ⟨i.toNat, by omega⟩
      have g5 : ¬ n ≤ I := by omega
      have HI := Aside0.mk (show I < n by omega)
      have HI1 := Aside0.mk (show I + 1 ≤ n by omega)
      cases g2 : T I with
      | true =>
        have HG := Aside0.mk g2
        go_enter Try.func39, Try.ntmps39
        go_wp2_with (first | (go_at_call 40; (with_reducible refine (made_calls HA.out).mono ?_); rintro e w1 ⟨rfl, rfl⟩) | (go_at_call 48; (with_reducible refine (is_calls (HA.out.drawn (by repeat (first | exact Drawn0.refl _ | apply Drawn0.step))) I HI.out _ rfl).mono ?_); rintro e w1 ⟨rfl, ⟨m1, rfl⟩⟩))
        go_ret
        exact ⟨8, T, rfl, Or.inr (Or.inl ⟨by omega, by omega, HG.out, rfl, rfl⟩), HA.out.drawn ⟨⟨_, rfl⟩⟩, Own.drawn ⟨⟨_, rfl⟩⟩⟩
      | false =>
        have HG := Aside0.mk g2
        go_enter Try.func39, Try.ntmps39
        go_wp2_with (first | (go_at_call 40; (with_reducible refine (made_calls HA.out).mono ?_); rintro e w1 ⟨rfl, rfl⟩) | (go_at_call 48; (with_reducible refine (is_calls (HA.out.drawn (by repeat (first | exact Drawn0.refl _ | apply Drawn0.step))) I HI.out _ rfl).mono ?_); rintro e w1 ⟨rfl, ⟨m1, rfl⟩⟩) | (go_at_call 46; (with_reducible refine (set_calls (HA.out.drawn (by repeat (first | exact Drawn0.refl _ | apply Drawn0.step))) I 1 HI1.out true _ 1 rfl rfl).mono ?_); rintro e w2 ⟨rfl, ha, ho⟩; have HA2 := Aside0.mk ha; have HO2 := Aside0.mk ho; clear ha ho))
        go_ret
        exact ⟨0, _, rfl, Or.inr (Or.inr ⟨by omega, by omega, HG.out, rfl, rfl⟩), HA2.out, (Own.drawn ⟨⟨_, rfl⟩⟩).trans HO2.out⟩
end Go.Proofs.Ytdjpohmgljhhcaa.A
