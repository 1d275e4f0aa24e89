/- begun. -/
import Derived.Test.YtagplafbdmjagaaV13
import Derived.Below
import Derived.Deep.Draws
import Derived.Deep.AppendLies
import Derived.Maps.AppendAt
import Derived.OwnWalk
import Derived.Laws.BytesArg
import Derived.Laws.MakeOwn
import Derived.Laws.OwnMore
import Derived.Deep.OwnRows
import Derived.Tactics
import Derived.Lib.ConvBytes
import Derived.Laws.Slices
import Derived.WalkKit
import Derived.KernelRfl
import Derived.RowKit3
import Derived.Deep.LoopGhost
import Derived.Deep.QuietTactic
import Derived.BigQuiet
import Derived.WideLaws
import Derived.Deep.DeepCutAuto
import Derived.Deep.CutBlock
import Derived.Deep.RegionHeld3
import Derived.Laws.Rows
import Derived.Lib.AppendStr
import Derived.ArgAppend
import Derived.Laws.IdiomCopy
import Derived.OrdersHeld
import Derived.Laws.BitsLemmas
import Derived.RowKit
import Derived.Laws.Cover1
import Derived.Deep.RegionWith
import Derived.Deep.RegionLaw
import Derived.WalkMore
import Derived.ScopeJumps
import Derived.Test.YtagplafbdmjagaaWWords
import Derived.Test.YtagplafbdmjagaaWLast
import Derived.Test.YtagplafbdmjagaaWTab
import Derived.Test.YtagplafbdmjagaaWFour
import Derived.Test.YtagplafbdmjagaaWQPut
import Derived.Test.YtagplafbdmjagaaWApart
import Derived.Test.YtagplafbdmjagaaWArr
import Derived.Test.YtagplafbdmjagaaWZeros
import Derived.Test.YtagplafbdmjagaaWFoot
import Derived.Test.YtagplafbdmjagaaWKept
import Derived.Test.YtagplafbdmjagaaWShare
import Derived.Test.YtagplafbdmjagaaWN
import Derived.Test.YtagplafbdmjagaaWFootNe
import Derived.Test.YtagplafbdmjagaaWAt
import Derived.Test.YtagplafbdmjagaaWEqStruct
import Derived.Test.YtagplafbdmjagaaWRepsOne
import Derived.Test.YtagplafbdmjagaaWInv
import Derived.Test.YtagplafbdmjagaaWInvWords
import Derived.Test.YtagplafbdmjagaaWGuard
import Derived.Test.YtagplafbdmjagaaWNEv
import Derived.Test.YtagplafbdmjagaaWMore
import Derived.Laws.BitsAllLaws
namespace Go.Proofs.Ytagplafbdmjagaa.A
open Go.RowKit Go.Proofs.YtagplafbdmjagaaW.PrintWords Go.Proofs.YtagplafbdmjagaaW.PrintLast Go.Proofs.YtagplafbdmjagaaW.PrintMore
set_option linter.unusedVariables false
set_option maxHeartbeats 4000000
set_option maxRecDepth 100000
/-- A slice of acts, to be read; its blocks are below a bound. -/
structure ActsIn (w : World) (N : Nat) (A : Option Addr) (len : Nat) : Prop where
  cell : ∀ j, j < len → ∃ g o, A = some ⟨g, o, none⟩ ∧ g < N ∧ ∃ a b c : Int, b < 9223372036854775808 ∧ c < 9223372036854775808 ∧ w.cell? ⟨g, o + j * 3, none⟩ = some (.int .i64 a) ∧ w.cell? ⟨g, o + j * 3 + 1, none⟩ = some (.int .i64 b) ∧ w.cell? ⟨g, o + j * 3 + 2, none⟩ = some (.int .i64 c)
theorem begun_calls (w : World) (A : Option Addr) (len cap : Nat) (hl : len < 9223372036854775808) (h : ActsIn w w.heap.size A len) : Calls Try.prog 8 #[.slice A len cap] w fun e w' => ∃ p q T, e = .returned (.pointer (some ⟨p, 0, none⟩)) ∧ w.heap.size ≤ p ∧ w.heap.size ≤ q ∧ IsAlloc w' p q 100 T ∧ Below w.heap.size w w' := by
  have H := Aside0.mk h
  clear h
  go_enter Try.func8, Try.ntmps8
  go_wp2_with (first | (go_at_call 16; (with_reducible refine (New_calls 100 (by decide) (by decide) 100 rfl _).mono ?_); rintro e w1 ⟨p, q, rfl, hp, hq, ha, hb⟩; have HP := Aside0.mk hp; have HQ := Aside0.mk hq; have HA1 := Aside0.mk ha; have HB1 := Aside0.mk hb; clear hp hq ha hb))
  go_loopw [5] (fun vi wr => ∃ (i : Nat) (T : Nat → Bool), vi = .int .i64 i ∧ i ≤ len ∧ Aside0 (IsAlloc wr p q 100 T) ∧ Aside0 (Below w.heap.size w wr)) (fun vi _ => len - (intOf vi).toNat)
  case atStart => exact ⟨0, _, rfl, by omega, HA1, HB1⟩
  case round =>
    obtain ⟨i, T, rfl, hi, HA, HB⟩ := hrel
    by_cases g1 : i < len ∧ i < 300
    · obtain ⟨g1a, g1b⟩ := g1
      obtain ⟨g, o, rfl, hg, a, b, c, hb, hc, ca, cb, cc⟩ := H.out.cell i g1a
      have da := (HB.out.cell (p := ⟨g, o + i * 3, none⟩) hg).trans ca
      have db := (HB.out.cell (p := ⟨g, o + i * 3 + 1, none⟩) hg).trans cb
      have dc := (HB.out.cell (p := ⟨g, o + i * 3 + 2, none⟩) hg).trans cc
      clear ca cb cc
      have i0 : (0 : Int) ≤ (i : Int) := by omega
      have i1 : (i : Int) < (len : Int) := by omega
      have i2 : (i : Int) < 300 := by omega
      have HBc := Aside0.mk hb
      have HCc := Aside0.mk hc
      clear hb hc
      by_cases k1 : a = 1
      · subst k1
        go_wp2_with (first | (go_at_call 22; (with_reducible refine (Claim_calls HA.out b).mono ?_); rintro e w2 ⟨er, T', rfl, hr, ha, ho⟩; have HA2 := Aside0.mk ha; have HB2 := Aside0.mk (HB.out.trans (ho.below HQ.out HB.out.size)); clear hr ha ho))
        exact ⟨⟨i + 1, _, by go_num, by omega, HA2, HB2⟩, by simp [intOf]; omega⟩
      · by_cases k2 : a = 2
        · subst k2
          go_wp2
          have HAd := Aside0.mk (show IsAlloc wr.drew p q 100 T from HA.out.drawn (by repeat (first | exact Drawn0.refl _ | apply Drawn0.step)))
          go_region_with (first | (go_at_call 14; (with_reducible refine (Give_calls HAd.out b c HCc.out).mono ?_); rintro e w2 ⟨er, T', rfl, hr, ha, ho⟩; have HA2 := Aside0.mk ha; have HB2 := Aside0.mk ((below_drew1 HB.out).trans (ho.below HQ.out HB.out.size)); clear hr ha ho))
          all_goals
            go_wp2
            exact ⟨⟨i + 1, _, by go_num, by omega, HA2, HB2⟩, by simp [intOf]; omega⟩
        · go_wp2_with (first | (go_at_call 12; (with_reducible refine (Take_calls HA.out c HCc.out).mono ?_); rintro e w2 ⟨ti, er, T', rfl, hr, ha, ho⟩; have HA2 := Aside0.mk ha; have HB2 := Aside0.mk (HB.out.trans (ho.below HQ.out HB.out.size)); clear hr ha ho))
          exact ⟨⟨i + 1, _, by go_num, by omega, HA2, HB2⟩, by simp [intOf]; omega⟩
    · by_cases g2 : i < len
      · have g3 : ¬ (i : Int) < 300 := by omega
        have g4 : (i : Int) < (len : Int) := by omega
        go_wp2
        go_ret
        exact ⟨p, rfl, HP.out, q, HQ.out, ⟨T, HA.out⟩, HB.out⟩
      · have g4 : ¬ (i : Int) < (len : Int) := by omega
        go_wp2
        go_ret
        exact ⟨p, rfl, HP.out, q, HQ.out, ⟨T, HA.out⟩, HB.out⟩
end Go.Proofs.Ytagplafbdmjagaa.A
