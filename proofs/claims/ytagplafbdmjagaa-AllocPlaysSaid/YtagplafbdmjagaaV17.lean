/- AllocApart's walk. -/
import Derived.Test.YtagplafbdmjagaaV16
import Derived.Below
import Derived.Deep.Draws
import Derived.Deep.AppendLies
import Derived.Maps.AppendAt
import Derived.OwnWalk
import Derived.Laws.BytesArg
import Derived.Laws.MakeOwn
import Derived.Laws.OwnMore
import Derived.Deep.OwnRows
import Derived.Tactics
import Derived.Lib.ConvBytes
import Derived.Laws.Slices
import Derived.WalkKit
import Derived.KernelRfl
import Derived.RowKit3
import Derived.Deep.LoopGhost
import Derived.Deep.QuietTactic
import Derived.BigQuiet
import Derived.WideLaws
import Derived.Deep.DeepCutAuto
import Derived.Deep.CutBlock
import Derived.Deep.RegionHeld3
import Derived.Laws.Rows
import Derived.Lib.AppendStr
import Derived.ArgAppend
import Derived.Laws.IdiomCopy
import Derived.OrdersHeld
import Derived.Laws.BitsLemmas
import Derived.RowKit
import Derived.Laws.Cover1
import Derived.Deep.RegionWith
import Derived.Deep.RegionLaw
import Derived.WalkMore
import Derived.ScopeJumps
import Derived.Test.YtagplafbdmjagaaWWords
import Derived.Test.YtagplafbdmjagaaWLast
import Derived.Test.YtagplafbdmjagaaWTab
import Derived.Test.YtagplafbdmjagaaWFour
import Derived.Test.YtagplafbdmjagaaWQPut
import Derived.Test.YtagplafbdmjagaaWApart
import Derived.Test.YtagplafbdmjagaaWArr
import Derived.Test.YtagplafbdmjagaaWZeros
import Derived.Test.YtagplafbdmjagaaWFoot
import Derived.Test.YtagplafbdmjagaaWKept
import Derived.Test.YtagplafbdmjagaaWShare
import Derived.Test.YtagplafbdmjagaaWN
import Derived.Test.YtagplafbdmjagaaWFootNe
import Derived.Test.YtagplafbdmjagaaWAt
import Derived.Test.YtagplafbdmjagaaWEqStruct
import Derived.Test.YtagplafbdmjagaaWRepsOne
import Derived.Test.YtagplafbdmjagaaWInv
import Derived.Test.YtagplafbdmjagaaWInvWords
import Derived.Test.YtagplafbdmjagaaWGuard
import Derived.Test.YtagplafbdmjagaaWNEv
import Derived.Test.YtagplafbdmjagaaWMore
import Derived.Laws.BitsAllLaws
namespace Go.Proofs.Ytagplafbdmjagaa.A
open Go.RowKit Go.Proofs.YtagplafbdmjagaaW.PrintWords Go.Proofs.YtagplafbdmjagaaW.PrintLast Go.Proofs.YtagplafbdmjagaaW.PrintMore
set_option linter.unusedVariables false
set_option maxHeartbeats 4000000
set_option maxRecDepth 100000
theorem blk_lt_alloc {w : World} {p q n : Nat} {T : Nat → Bool} (h : IsAlloc w p q n T) : p < w.heap.size ∧ q < w.heap.size := by
  obtain ⟨c, cells, u, h⟩ := h
  exact ⟨blk_lt h.self, blk_lt h.words⟩
theorem rows_len (T : Nat → Bool) (n f i : Nat) : (rowsFrom T n f i).length ≤ f := by
  induction f generalizing i with
  | zero => simp [rowsFrom]
  | succ f ih =>
    rw [rowsFrom]
    split
    · split
      · have := ih (i + freeFrom T i (n - i) + 1); simp; omega
      · have := ih (i + 1); omega
    · simp
theorem rows_short (T : Nat → Bool) : (rowsOf T 100).length ≤ 16400 := Nat.le_trans (rows_len T 100 100 0) (by decide)
theorem allocApart_walk (w : World) (A : Option Addr) (len cap : Nat) (hl : len < 9223372036854775808) (h : ActsIn w w.heap.size A len) (k : Int) (hk : k < 9223372036854775808) : Calls Try.prog 6 #[.slice A len cap, .int .i64 k] w fun e w' => e = .returned (.bool true) ∧ Below w.heap.size w w' := by
  have H := Aside0.mk h
  clear h
  go_enter Try.func6, Try.ntmps6
  go_wp2_with (first | (go_at_call 8; (with_reducible refine (begun_calls _ A len cap hl H.out).mono ?_); rintro e w1 ⟨p, q, T, rfl, hp, hq, ha, hb⟩; have HP := Aside0.mk hp; have HQ := Aside0.mk hq; have HA1 := Aside0.mk ha; have HB1 := Aside0.mk hb; clear hp hq ha hb) | (go_at_call 21; (with_reducible refine (Copy_calls HA1.out).mono ?_); rintro e w2 ⟨p1, q1, rfl, hp, hq, ha, hb⟩; have HP1 := Aside0.mk hp; have HQ1 := Aside0.mk hq; have HA2 := Aside0.mk (HA1.out.grown hb); have HC2 := Aside0.mk ha; have HB2 := Aside0.mk (HB1.out.trans (hb.mono HB1.out.size)); clear hp hq ha hb))
  refine (Take_calls HA2.out k hk).mono ?_
  rintro e w3 ⟨ti, er, T', rfl, hr, ha, ho⟩
  have HC3 := Aside0.mk (HC2.out.own ho (by have := HP1.out; have := blk_lt_alloc HA1.out; omega) (by have := HQ1.out; have := blk_lt_alloc HA1.out; omega))
  have HA3 := Aside0.mk ha
  have HB3 := Aside0.mk (HB2.out.trans (ho.below HQ.out HB2.out.size))
  clear ha ho
  rcases hr with ⟨r1, rfl, rfl, rfl⟩ | ⟨r1, r2, r3, rfl, rfl⟩ | ⟨r1, r2, rfl, rfl, rfl⟩
  · go_wp2_with (first | (go_at_call 10; (with_reducible refine (Rows_calls HA3.out).mono ?_); rintro e w4 ⟨v4, rfl, ho, hb⟩; obtain ⟨A4, c4, hin⟩ := ho.inside; have HI4 := Aside0.mk hin; have HC4 := Aside0.mk (HC3.out.grown hb); have HB4 := Aside0.mk (HB3.out.trans (hb.mono HB3.out.size)); clear ho hb hin HA3) | (go_at_call 10; (with_reducible refine (Rows_calls HC4.out).mono ?_); rintro e w5 ⟨v5, rfl, ho, hb⟩; obtain ⟨A5, c5, hin⟩ := ho.inside; have HI5 := Aside0.mk hin; have HI45 := Aside0.mk (HI4.out.below hb); have HB5 := Aside0.mk (HB4.out.trans (hb.mono HB4.out.size)); clear ho hb hin) | (go_at_call 13; (with_reducible refine (same_true HI45.out HI5.out (rows_short _) rfl).mono ?_); rintro e w6 ⟨rfl, ⟨m6, rfl⟩⟩; have HB6 := Aside0.mk (pw_below_drewN HB5.out m6)) | (go_at_call 9; (with_reducible refine (lives_calls _).mono ?_); rintro e w9 ⟨rfl, hb9⟩; have HB9 := Aside0.mk (HB6.out.trans (hb9.mono HB6.out.size)); clear hb9))
    go_ret
    exact ⟨rfl, HB9.out⟩
  · rw [show k = (k.toNat : Int) by omega] at *
    generalize k.toNat = K at *
    rw [Int.toNat_natCast] at *
    have hK1 : (1 : Int) ≤ (K : Int) := r1
    have hKn : ti + K ≤ 100 := r2.1
    have HR := Aside0.mk r2
    have HN := Aside0.mk (cnt_setT r2)
    have HC := Aside0.mk (cnt_le (setT T ti K true) 100)
    have t0 : (0 : Int) ≤ (ti : Int) := by omega
    have t1 : (K : Int) ≤ 100 := by omega
    have t2 : (ti : Int) ≤ 100 - (K : Int) := by omega
    have t3 : K ≤ 100 := by omega
    clear r1 r2 r3 hk
    go_wp2
    go_loopw [9, 10] (fun vi _ wr => ∃ x : Nat, vi = .int .i64 x ∧ x ≤ 100 ∧ Drawn0 w3 wr) (fun vi _ _ => 100 - (intOf vi).toNat)
    case atStart => exact ⟨0, rfl, by omega, Drawn0.refl _⟩
    case round =>
      obtain ⟨x, rfl, hx, ⟨nd, rfl⟩⟩ := hrel
      by_cases g1 : x < 100
      · by_cases g2 : ti ≤ x ∧ x < ti + K
        · obtain ⟨g2a, g2b⟩ := g2
          have k1 : (ti : Int) ≤ (x : Int) := by omega
          have k2 : (x : Int) < (ti : Int) + (K : Int) := by omega
          have k3 : (x : Int) < 100 := by omega
          have E1 := Aside0.mk (show false = (decide ((0 : Int) ≤ (x : Int)) && T (x : Int).toNat) by rw [Int.toNat_natCast, HR.out.2 x g2a g2b]; simp)
          have E2 := Aside0.mk (show true = (decide ((0 : Int) ≤ (x : Int)) && setT T ti K true (x : Int).toNat) by rw [Int.toNat_natCast]; unfold setT; rw [if_pos ⟨g2a, g2b⟩]; simp)
          go_wp2_with (first | (go_at_call 15; (with_reducible refine (Has_calls (HC3.out.drawn (by repeat (first | exact Drawn0.refl _ | apply Drawn0.step))) _ _ E1.out).mono ?_); rintro e w4 ⟨rfl, ⟨m4, rfl⟩⟩) | (go_at_call 15; (with_reducible refine (Has_calls (HA3.out.drawn (by repeat (first | exact Drawn0.refl _ | apply Drawn0.step))) _ _ E2.out).mono ?_); rintro e w5 ⟨rfl, ⟨m5, rfl⟩⟩))
          exact ⟨⟨x + 1, by go_num, by omega, ⟨⟨_, rfl⟩⟩⟩, by simp [intOf]; omega⟩
        · obtain ⟨b, hb⟩ : ∃ b, T x = b := ⟨_, rfl⟩
          have E1 := Aside0.mk (show b = (decide ((0 : Int) ≤ (x : Int)) && T (x : Int).toNat) by rw [Int.toNat_natCast, hb]; simp)
          have E2 := Aside0.mk (show b = (decide ((0 : Int) ≤ (x : Int)) && setT T ti K true (x : Int).toNat) by rw [Int.toNat_natCast]; unfold setT; rw [if_neg g2, hb]; simp)
          have k3 : (x : Int) < 100 := by omega
          have k4 : (x : Int) < (ti : Int) ∨ ((ti : Int) ≤ (x : Int) ∧ ¬ (x : Int) < (ti : Int) + (K : Int)) := by omega
          clear hb g2
          rcases k4 with k4 | ⟨k4, k5⟩ <;> cases b <;>
          · go_wp2_with (first | (go_at_call 15; (with_reducible refine (Has_calls (HC3.out.drawn (by repeat (first | exact Drawn0.refl _ | apply Drawn0.step))) _ _ E1.out).mono ?_); rintro e w4 ⟨rfl, ⟨m4, rfl⟩⟩) | (go_at_call 15; (with_reducible refine (Has_calls (HA3.out.drawn (by repeat (first | exact Drawn0.refl _ | apply Drawn0.step))) _ _ E2.out).mono ?_); rintro e w5 ⟨rfl, ⟨m5, rfl⟩⟩))
            exact ⟨⟨x + 1, by go_num, by omega, ⟨⟨_, rfl⟩⟩⟩, by simp [intOf]; omega⟩
      · obtain ⟨G, hG⟩ : ∃ G, G + cnt (setT T ti K true) 100 = 100 := ⟨100 - cnt (setT T ti K true) 100, by have := HC.out; omega⟩
        have EA := Aside0.mk hG
        have EB := Aside0.mk (show (G + K) + cnt T 100 = 100 by have := HN.out; omega)
        have hG2 : G ≤ 100 := by omega
        have k3 : ¬ (x : Int) < 100 := by omega
        clear hG
        have HBd := Aside0.mk (show Below w.heap.size w (w3.drewN nd) from pw_below_drewN HB3.out nd)
        go_wp2_with (first | (go_at_call 11; (with_reducible refine (Free_calls (HA3.out.drawn (by repeat (first | exact Drawn0.refl _ | apply Drawn0.step))) G EA.out).mono ?_); rintro e w4 ⟨rfl, ⟨m4, rfl⟩⟩) | (go_at_call 11; (with_reducible refine (Free_calls (HC3.out.drawn (by repeat (first | exact Drawn0.refl _ | apply Drawn0.step))) (G + K) EB.out).mono ?_); rintro e w5 ⟨rfl, ⟨m5, rfl⟩⟩) | (go_at_call 9; (with_reducible refine (lives_calls _).mono ?_); rintro e w9 ⟨rfl, hb9⟩; have HB9 := Aside0.mk hb9; clear hb9))
        go_ret
        exact ⟨rfl, (pw_below_drewN HB3.out _).trans (HB9.out.mono (pw_below_drewN HB3.out _).size)⟩
  · clear r2
    go_wp2_with (first | (go_at_call 10; (with_reducible refine (Rows_calls HA3.out).mono ?_); rintro e w4 ⟨v4, rfl, ho, hb⟩; obtain ⟨A4, c4, hin⟩ := ho.inside; have HI4 := Aside0.mk hin; have HC4 := Aside0.mk (HC3.out.grown hb); have HB4 := Aside0.mk (HB3.out.trans (hb.mono HB3.out.size)); clear ho hb hin HA3) | (go_at_call 10; (with_reducible refine (Rows_calls HC4.out).mono ?_); rintro e w5 ⟨v5, rfl, ho, hb⟩; obtain ⟨A5, c5, hin⟩ := ho.inside; have HI5 := Aside0.mk hin; have HI45 := Aside0.mk (HI4.out.below hb); have HB5 := Aside0.mk (HB4.out.trans (hb.mono HB4.out.size)); clear ho hb hin) | (go_at_call 13; (with_reducible refine (same_true HI45.out HI5.out (rows_short _) rfl).mono ?_); rintro e w6 ⟨rfl, ⟨m6, rfl⟩⟩; have HB6 := Aside0.mk (pw_below_drewN HB5.out m6)) | (go_at_call 9; (with_reducible refine (lives_calls _).mono ?_); rintro e w9 ⟨rfl, hb9⟩; have HB9 := Aside0.mk (HB6.out.trans (hb9.mono HB6.out.size)); clear hb9))
    go_ret
    exact ⟨rfl, HB9.out⟩
end Go.Proofs.Ytagplafbdmjagaa.A
