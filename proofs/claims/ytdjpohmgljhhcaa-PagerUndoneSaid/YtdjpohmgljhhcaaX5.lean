/- Give. -/
import Derived.Test.YtdjpohmgljhhcaaX4
import Derived.Below
import Derived.Deep.Draws
import Derived.Deep.AppendLies
import Derived.Maps.AppendAt
import Derived.OwnWalk
import Derived.Laws.BytesArg
import Derived.Laws.MakeOwn
import Derived.Laws.OwnMore
import Derived.Deep.OwnRows
import Derived.Tactics
import Derived.Lib.ConvBytes
import Derived.Laws.Slices
import Derived.WalkKit
import Derived.KernelRfl
import Derived.RowKit3
import Derived.Deep.LoopGhost
import Derived.Deep.QuietTactic
import Derived.BigQuiet
import Derived.WideLaws
import Derived.Deep.DeepCutAuto
import Derived.Deep.CutBlock
import Derived.Deep.RegionHeld3
import Derived.Laws.Rows
import Derived.Lib.AppendStr
import Derived.ArgAppend
import Derived.Laws.IdiomCopy
import Derived.OrdersHeld
import Derived.Laws.BitsLemmas
import Derived.RowKit
import Derived.Laws.Cover1
import Derived.Deep.RegionWith
import Derived.Deep.RegionLaw
import Derived.WalkMore
import Derived.ScopeJumps
import Derived.Test.YtdjpohmgljhhcaaWWords
import Derived.Test.YtdjpohmgljhhcaaWLast
import Derived.Test.YtdjpohmgljhhcaaWTab
import Derived.Test.YtdjpohmgljhhcaaWFour
import Derived.Test.YtdjpohmgljhhcaaWQPut
import Derived.Test.YtdjpohmgljhhcaaWApart
import Derived.Test.YtdjpohmgljhhcaaWArr
import Derived.Test.YtdjpohmgljhhcaaWZeros
import Derived.Test.YtdjpohmgljhhcaaWFoot
import Derived.Test.YtdjpohmgljhhcaaWKept
import Derived.Test.YtdjpohmgljhhcaaWShare
import Derived.Test.YtdjpohmgljhhcaaWN
import Derived.Test.YtdjpohmgljhhcaaWFootNe
import Derived.Test.YtdjpohmgljhhcaaWAt
import Derived.Test.YtdjpohmgljhhcaaWEqStruct
import Derived.Test.YtdjpohmgljhhcaaWRepsOne
import Derived.Test.YtdjpohmgljhhcaaWInv
import Derived.Test.YtdjpohmgljhhcaaWInvWords
import Derived.Test.YtdjpohmgljhhcaaWGuard
import Derived.Test.YtdjpohmgljhhcaaWNEv
import Derived.Test.YtdjpohmgljhhcaaWMore
import Derived.Laws.BitsAllLaws
namespace Go.Proofs.Ytdjpohmgljhhcaa.A
open Go.RowKit Go.Proofs.YtdjpohmgljhhcaaW.PrintWords Go.Proofs.YtdjpohmgljhhcaaW.PrintLast Go.Proofs.YtdjpohmgljhhcaaW.PrintMore
set_option linter.unusedVariables false
set_option maxHeartbeats 4000000
set_option maxRecDepth 100000
theorem Give_calls {w : World} {p q n : Nat} {T : Nat → Bool} (h : IsAlloc w p q n T) (i k : Int) (hk : k < 9223372036854775808) : Calls Try.prog 29 #[.pointer (some ⟨p, 0, none⟩), .int .i64 i, .int .i64 k] w fun e w' => ∃ er T', e = .returned (.int .i64 er) ∧ GiveR T n i k er T' ∧ IsAlloc w' p q n T' ∧ Own q w w' := by
  have HA := Aside0.mk h
  have hc0 : w.cell? ⟨p, 0, none⟩ = some (.int .i64 (n : Int)) := by
    obtain ⟨c, cells, u, h⟩ := h
    exact (blk_cell h.self 0).trans rfl
  have hn : n ≤ 16384 := by
    obtain ⟨c, cells, u, h⟩ := h
    exact h.most
  clear h
  by_cases g1 : k < 1
  · go_enter Try.func29, Try.ntmps29
    go_wp2_with (first | (go_at_call 40; (with_reducible refine (made_calls HA.out).mono ?_); rintro e w1 ⟨rfl, rfl⟩))
    go_ret
    exact ⟨2, T, rfl, Or.inl ⟨g1, rfl, rfl⟩, HA.out, .refl _ _⟩
  · by_cases g0 : i < 0
    · go_enter Try.func29, Try.ntmps29
      go_wp2_with (first | (go_at_call 40; (with_reducible refine (made_calls HA.out).mono ?_); rintro e w1 ⟨rfl, rfl⟩))
      go_ret
      exact ⟨6, T, rfl, Or.inr (Or.inl ⟨by omega, Or.inl g0, rfl, rfl⟩), HA.out, .refl _ _⟩
    · by_cases g2 : (n : Int) < k
      · go_enter Try.func29, Try.ntmps29
        go_wp2_with (first | (go_at_call 40; (with_reducible refine (made_calls HA.out).mono ?_); rintro e w1 ⟨rfl, rfl⟩))
        go_ret
        exact ⟨6, T, rfl, Or.inr (Or.inl ⟨by omega, Or.inr (Or.inl g2), rfl, rfl⟩), HA.out, .refl _ _⟩
      · by_cases g3 : (n : Int) - k < i
        · go_enter Try.func29, Try.ntmps29
          go_wp2_with (first | (go_at_call 40; (with_reducible refine (made_calls HA.out).mono ?_); rintro e w1 ⟨rfl, rfl⟩))
          go_ret
          exact ⟨6, T, rfl, Or.inr (Or.inl ⟨by omega, Or.inr (Or.inr g3), rfl, rfl⟩), HA.out, .refl _ _⟩
        · obtain ⟨I, rfl⟩ : ∃ I : Nat, (I : Int) = i := ⟨i.toNat, by omega⟩
          obtain ⟨K, rfl⟩ : ∃ K : Nat, (K : Int) = k := ⟨k.toNat, by omega⟩
          have g4 : I + K ≤ n := by omega
          have HI := Aside0.mk g4
          have k1 : (K : Int) - 1 < 9223372036854775807 := by omega
          have h0 : (0 : Int) ≤ (I : Int) := by omega
          have h1 : (1 : Int) ≤ (K : Int) := by omega
          have h2 : (K : Int) ≤ (n : Int) := by omega
          have h3 : (I : Int) ≤ (n : Int) - (K : Int) := by omega
          have h4 : (I : Int) + (K : Int) ≤ 16384 := by omega
          have h5 : (n : Int) ≤ 16384 := by omega
          have h6 : ¬ n < K := by omega
          have h7 : ¬ (I : Int) < 0 := by omega
          have h8 : ¬ (K : Int) < 1 := by omega
          have h9 : ¬ (n : Int) - (K : Int) < (I : Int) := by omega
          clear g0 g1 g2 g3 g4 hn hk k1 h0 h1 h2 h3
          go_enter Try.func29, Try.ntmps29
          go_wp2_with (first | (go_at_call 40; (with_reducible refine (made_calls HA.out).mono ?_); rintro e w1 ⟨rfl, rfl⟩))
          go_loopw [7] (fun vp wr => ∃ j : Nat, j ≤ K ∧ vp = .int .i64 ((I + j : Nat) : Int) ∧ Aside0 (∀ x, I ≤ x → x < I + j → T x = true) ∧ Drawn0 w1 wr) (fun vp _ => I + K - (intOf vp).toNat)
          case atStart => exact ⟨0, Nat.zero_le _, rfl, ⟨fun x h1 h2 => absurd h2 (by omega)⟩, by repeat (first | exact Drawn0.refl _ | apply Drawn0.step)⟩
          case round =>
            obtain ⟨j, hj, rfl, HR, ⟨nd, rfl⟩⟩ := hrel
            obtain ⟨z, hz⟩ : ∃ z, I + j = z := ⟨_, rfl⟩
            rw [hz]
            by_cases g5 : j < K
            · have HZ := Aside0.mk (show z < n by omega)
              have g6 : (z : Int) < (I : Int) + (K : Int) := by omega
              cases g7 : T z with
              | true =>
                have HN := Aside0.mk (show ∀ x, I ≤ x → x < I + (j + 1) → T x = true by
                  intro x h1 h2
                  by_cases e : x = z
                  · rw [e, g7]
                  · exact HR.out x h1 (by omega))
                have HG := Aside0.mk g7
                go_wp2_with (first | (go_at_call 48; (with_reducible refine (is_calls (HA.out.drawn (by repeat (first | exact Drawn0.refl _ | apply Drawn0.step))) z HZ.out _ rfl).mono ?_); rintro e w1 ⟨rfl, ⟨m1, rfl⟩⟩))
                exact ⟨⟨j + 1, by omega, by rw [← hz]; go_num, HN, ⟨⟨_, rfl⟩⟩⟩, by simp [intOf]; omega⟩
              | false =>
                have HG := Aside0.mk g7
                go_wp2_with (first | (go_at_call 48; (with_reducible refine (is_calls (HA.out.drawn (by repeat (first | exact Drawn0.refl _ | apply Drawn0.step))) z HZ.out _ rfl).mono ?_); rintro e w1 ⟨rfl, ⟨m1, rfl⟩⟩))
                go_ret
                exact ⟨7, T, rfl, Or.inr (Or.inr (Or.inl ⟨by omega, by omega, by omega, ⟨z, by omega, by omega, HG.out⟩, rfl, rfl⟩)), HA.out.drawn ⟨⟨_, rfl⟩⟩, Own.drawn ⟨⟨_, rfl⟩⟩⟩
            · have g6 : ¬ (z : Int) < (I : Int) + (K : Int) := by omega
              have HN := Aside0.mk (show ∀ x : Nat, (I : Int) ≤ x → (x : Int) < (I : Int) + (K : Int) → T x = true from fun x h1 h2 => HR.out x (by omega) (by omega))
              go_wp2_with (first | (go_at_call 46; (with_reducible refine (set_calls (HA.out.drawn (by repeat (first | exact Drawn0.refl _ | apply Drawn0.step))) I K HI.out false _ _ rfl rfl).mono ?_); rintro e w2 ⟨rfl, ha, ho⟩; have HA2 := Aside0.mk ha; have HO2 := Aside0.mk ho; clear ha ho))
              go_ret
              exact ⟨0, _, rfl, Or.inr (Or.inr (Or.inr ⟨by omega, by omega, by omega, HN.out, rfl, rfl⟩)), HA2.out, (Own.drawn ⟨⟨_, rfl⟩⟩).trans HO2.out⟩
end Go.Proofs.Ytdjpohmgljhhcaa.A
