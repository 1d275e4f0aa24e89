/- lives. -/
import Derived.Test.YtagplafbdmjagaaV12
import Derived.Below
import Derived.Deep.Draws
import Derived.Deep.AppendLies
import Derived.Maps.AppendAt
import Derived.OwnWalk
import Derived.Laws.BytesArg
import Derived.Laws.MakeOwn
import Derived.Laws.OwnMore
import Derived.Deep.OwnRows
import Derived.Tactics
import Derived.Lib.ConvBytes
import Derived.Laws.Slices
import Derived.WalkKit
import Derived.KernelRfl
import Derived.RowKit3
import Derived.Deep.LoopGhost
import Derived.Deep.QuietTactic
import Derived.BigQuiet
import Derived.WideLaws
import Derived.Deep.DeepCutAuto
import Derived.Deep.CutBlock
import Derived.Deep.RegionHeld3
import Derived.Laws.Rows
import Derived.Lib.AppendStr
import Derived.ArgAppend
import Derived.Laws.IdiomCopy
import Derived.OrdersHeld
import Derived.Laws.BitsLemmas
import Derived.RowKit
import Derived.Laws.Cover1
import Derived.Deep.RegionWith
import Derived.Deep.RegionLaw
import Derived.WalkMore
import Derived.ScopeJumps
import Derived.Test.YtagplafbdmjagaaWWords
import Derived.Test.YtagplafbdmjagaaWLast
import Derived.Test.YtagplafbdmjagaaWTab
import Derived.Test.YtagplafbdmjagaaWFour
import Derived.Test.YtagplafbdmjagaaWQPut
import Derived.Test.YtagplafbdmjagaaWApart
import Derived.Test.YtagplafbdmjagaaWArr
import Derived.Test.YtagplafbdmjagaaWZeros
import Derived.Test.YtagplafbdmjagaaWFoot
import Derived.Test.YtagplafbdmjagaaWKept
import Derived.Test.YtagplafbdmjagaaWShare
import Derived.Test.YtagplafbdmjagaaWN
import Derived.Test.YtagplafbdmjagaaWFootNe
import Derived.Test.YtagplafbdmjagaaWAt
import Derived.Test.YtagplafbdmjagaaWEqStruct
import Derived.Test.YtagplafbdmjagaaWRepsOne
import Derived.Test.YtagplafbdmjagaaWInv
import Derived.Test.YtagplafbdmjagaaWInvWords
import Derived.Test.YtagplafbdmjagaaWGuard
import Derived.Test.YtagplafbdmjagaaWNEv
import Derived.Test.YtagplafbdmjagaaWMore
import Derived.Laws.BitsAllLaws
namespace Go.Proofs.Ytagplafbdmjagaa.A
open Go.RowKit Go.Proofs.YtagplafbdmjagaaW.PrintWords Go.Proofs.YtagplafbdmjagaaW.PrintLast Go.Proofs.YtagplafbdmjagaaW.PrintMore
set_option linter.unusedVariables false
set_option maxHeartbeats 4000000
set_option maxRecDepth 100000
abbrev lt0 : Nat → Bool := fun _ => false
abbrev lt1 : Nat → Bool := setT lt0 0 2 true
abbrev lt2 : Nat → Bool := setT lt1 2 3 true
abbrev lt3 : Nat → Bool := setT lt2 0 2 false
abbrev lt4 : Nat → Bool := setT lt3 0 1 true
theorem row_dec (T : Nat → Bool) (n i k : Nat) : RowAt T n i k ↔ (i + k ≤ n ∧ ∀ x : Fin k, T (i + x.val) = false) := by
  constructor
  · rintro ⟨h1, h2⟩
    exact ⟨h1, fun x => h2 _ (by omega) (by have := x.isLt; omega)⟩
  · rintro ⟨h1, h2⟩
    refine ⟨h1, fun j a b => ?_⟩
    have := h2 ⟨j - i, by omega⟩
    rwa [show i + (j - i) = j by omega] at this
instance (T : Nat → Bool) (n i k : Nat) : Decidable (RowAt T n i k) := decidable_of_iff _ (row_dec T n i k).symm
theorem lv1 : RowAt lt0 6 0 2 ∧ ∀ x, x < 0 → ¬ RowAt lt0 6 x 2 := ⟨by decide, fun x h => by omega⟩
theorem lv2 : RowAt lt1 6 2 3 ∧ ∀ x, x < 2 → ¬ RowAt lt1 6 x 3 := by decide
theorem lv3 : ∀ j, 0 ≤ j → j < 0 + 2 → lt2 j = true := fun j _ h => (show ∀ x : Fin 2, lt2 x.val = true by decide) ⟨j, by omega⟩
theorem lv4 : RowAt lt3 6 0 1 ∧ ∀ x, x < 0 → ¬ RowAt lt3 6 x 1 := ⟨by decide, fun x h => by omega⟩
theorem lv5 : ∀ x, ¬ RowAt lt4 6 x 2 := by
  intro x h
  have hx : x < 5 := by have := h.1; omega
  exact (show ∀ y : Fin 5, ¬ RowAt lt4 6 y.val 2 by decide) ⟨x, hx⟩ h
theorem lv6 : rowsOf lt4 6 = [(1, 1), (5, 1)] := by decide
theorem lit_in (w : World) : RowsIn (w.alloc (.cells #[.int .i64 1, .int .i64 1, .int .i64 5, .int .i64 1] 28)) (.slice (some ⟨w.heap.size, 0, none⟩) 2 2) (some ⟨w.heap.size, 0, none⟩) 2 [(1, 1), (5, 1)] where
  val := rfl
  cell := by
    intro j hj
    have hj2 : j = 0 ∨ j = 1 := by simp at hj; omega
    rcases hj2 with rfl | rfl
    · exact ⟨_, rfl, (blk_cell (blk_new w _) 0).trans rfl, (blk_cell (blk_new w _) 1).trans rfl⟩
    · exact ⟨_, rfl, (blk_cell (blk_new w _) 2).trans rfl, (blk_cell (blk_new w _) 3).trans rfl⟩
theorem same_true {w : World} {v1 v2 : Value} {A1 A2 : Option Addr} {c1 c2 : Nat} {L1 L2 : List (Nat × Nat)} (h1 : RowsIn w v1 A1 c1 L1) (h2 : RowsIn w v2 A2 c2 L2) (hl2 : L2.length ≤ 16400) (he : L1 = L2) : Calls Try.prog 13 #[v1, v2] w fun e w' => e = .returned (.bool true) ∧ Drawn0 w w' := by
  subst he
  refine (Same_calls h1 h2 hl2 hl2).mono ?_
  rintro e w' ⟨rfl, h⟩
  exact ⟨by simp, h⟩
theorem lv7 : 2 + cnt lt4 6 = 6 := by decide
theorem lives_calls (w : World) : Calls Try.prog 9 #[] w fun e w' => e = .returned (.bool true) ∧ Below w.heap.size w w' := by
  have L1 := Aside0.mk lv1
  have L2 := Aside0.mk lv2
  have L3 := Aside0.mk lv3
  have L4 := Aside0.mk lv4
  have L5 := Aside0.mk lv5
  go_enter Try.func9, Try.ntmps9
  go_wp2_with (first | (go_at_call 16; (with_reducible refine (New_calls 6 (by decide) (by decide) 6 rfl _).mono ?_); rintro e w1 ⟨p, q, rfl, hp, hq, ha, hb⟩; have HP := Aside0.mk hp; have HQ := Aside0.mk hq; have HA1 := Aside0.mk ha; have HB1 := Aside0.mk hb; clear hp hq ha hb) | (go_at_call 12; (with_reducible refine (Take_some HA1.out 2 (by decide) (by decide) 0 L1.out.1 L1.out.2 2 0 rfl rfl).mono ?_); rintro e w2 ⟨rfl, ha, ho⟩; have HA2 := Aside0.mk ha; have HB2 := Aside0.mk (HB1.out.trans (ho.below HQ.out HB1.out.size)); clear ha ho) | (go_at_call 12; (with_reducible refine (Take_some HA2.out 3 (by decide) (by decide) 2 L2.out.1 L2.out.2 3 2 rfl rfl).mono ?_); rintro e w3 ⟨rfl, ha, ho⟩; have HA3 := Aside0.mk ha; have HB3 := Aside0.mk (HB2.out.trans (ho.below HQ.out HB2.out.size)); clear ha ho) | (go_at_call 14; (with_reducible refine (Give_all HA3.out 0 2 (by decide) (by decide) (by decide) L3.out 0 2 rfl rfl).mono ?_); rintro e w4 ⟨rfl, ha, ho⟩; have HA4 := Aside0.mk ha; have HB4 := Aside0.mk (HB3.out.trans (ho.below HQ.out HB3.out.size)); clear ha ho) | (go_at_call 12; (with_reducible refine (Take_some HA4.out 1 (by decide) (by decide) 0 L4.out.1 L4.out.2 1 0 rfl rfl).mono ?_); rintro e w5 ⟨rfl, ha, ho⟩; have HA5 := Aside0.mk ha; have HB5 := Aside0.mk (HB4.out.trans (ho.below HQ.out HB4.out.size)); clear ha ho) | (go_at_call 12; (with_reducible refine (Take_none HA5.out 2 (by decide) (by decide) L5.out 2 rfl).mono ?_); rintro e w6 ⟨rfl, ha, ho⟩; have HA6 := Aside0.mk ha; have HB6 := Aside0.mk (HB5.out.trans (ho.below HQ.out HB5.out.size)); clear ha ho) | (go_at_call 10; (with_reducible refine (Rows_calls HA6.out).mono ?_); rintro e w7 ⟨v7, rfl, ho, hb⟩; obtain ⟨A7, c7, hin⟩ := ho.inside; have HI7 := Aside0.mk hin; have HA7 := Aside0.mk (HA6.out.grown hb); have HB7 := Aside0.mk (HB6.out.trans (hb.mono HB6.out.size)); clear ho hb hin) | (go_at_call 13; (with_reducible refine (same_true (HI7.out.below (below_alloc (Below.refl _ _) _)) (lit_in w7) (by decide) lv6).mono ?_); rintro e w8 ⟨rfl, ⟨m8, rfl⟩⟩; have HA8 := Aside0.mk ((HA7.out.grown (below_alloc (Below.refl _ _) (.cells #[.int .i64 1, .int .i64 1, .int .i64 5, .int .i64 1] 28))).drawn (w' := (w7.alloc (.cells #[.int .i64 1, .int .i64 1, .int .i64 5, .int .i64 1] 28)).drewN m8) ⟨⟨m8, rfl⟩⟩); have HB8 := Aside0.mk (pw_below_drewN (HB7.out.alloc HB7.out.size (.cells #[.int .i64 1, .int .i64 1, .int .i64 5, .int .i64 1] 28)) m8)) | (go_at_call 14; (with_reducible refine (Give_not HA8.out 1 1 (by decide) (by decide) (by decide) 1 (by decide) (by decide) rfl 1 1 rfl rfl).mono ?_); rintro e w9 ⟨rfl, ha, ho⟩; have HA9 := Aside0.mk ha; have HB9 := Aside0.mk (HB8.out.trans (ho.below HQ.out HB8.out.size)); clear ha ho) | (go_at_call 11; (with_reducible refine (Free_calls HA9.out 2 lv7).mono ?_); rintro e w10 ⟨rfl, ⟨m10, rfl⟩⟩))
  go_ret
  exact ⟨rfl, by have := HB9.out; exact ((this.trans (Drawn0.below (w' := _) ⟨⟨_, rfl⟩⟩ |>.mono this.size)))⟩
end Go.Proofs.Ytagplafbdmjagaa.A
