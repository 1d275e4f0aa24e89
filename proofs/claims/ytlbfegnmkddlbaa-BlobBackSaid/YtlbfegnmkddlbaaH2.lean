/- The library's float functions, of floats that have whole numbers. -/
import Derived.Test.YtlbfegnmkddlbaaProg
import Derived.Below
import Derived.Deep.Draws
import Derived.Deep.AppendLies
import Derived.Maps.AppendAt
import Derived.OwnWalk
import Derived.Laws.BytesArg
import Derived.Laws.MakeOwn
import Derived.Laws.OwnMore
import Derived.Deep.OwnRows
import Derived.Tactics
import Derived.Lib.ConvBytes
import Derived.Laws.Slices
import Derived.WalkKit
import Derived.KernelRfl
import Derived.RowKit3
import Derived.Deep.LoopGhost
import Derived.Deep.QuietTactic
import Derived.BigQuiet
import Derived.WideLaws
import Derived.Deep.DeepCutAuto
import Derived.Deep.CutBlock
import Derived.Deep.RegionHeld3
import Derived.Laws.Rows
import Derived.Lib.AppendStr
import Derived.ArgAppend
import Derived.Laws.IdiomCopy
import Derived.OrdersHeld
import Derived.Laws.BitsLemmas
import Derived.RowKit
import Derived.Laws.Cover1
import Derived.Deep.RegionWith
import Derived.Deep.RegionLaw
import Derived.WalkMore
import Derived.ScopeJumps
import Derived.Test.YtlbfegnmkddlbaaWWords
import Derived.Test.YtlbfegnmkddlbaaWLast
import Derived.Test.YtlbfegnmkddlbaaWTab
import Derived.Test.YtlbfegnmkddlbaaWFour
import Derived.Test.YtlbfegnmkddlbaaWQPut
import Derived.Test.YtlbfegnmkddlbaaWApart
import Derived.Test.YtlbfegnmkddlbaaWArr
import Derived.Test.YtlbfegnmkddlbaaWZeros
import Derived.Test.YtlbfegnmkddlbaaWFoot
import Derived.Test.YtlbfegnmkddlbaaWKept
import Derived.Test.YtlbfegnmkddlbaaWShare
import Derived.Test.YtlbfegnmkddlbaaWN
import Derived.Test.YtlbfegnmkddlbaaWFootNe
import Derived.Test.YtlbfegnmkddlbaaWAt
import Derived.Test.YtlbfegnmkddlbaaWEqStruct
import Derived.Test.YtlbfegnmkddlbaaWRepsOne
import Derived.Test.YtlbfegnmkddlbaaWInv
import Derived.Test.YtlbfegnmkddlbaaWInvWords
import Derived.Test.YtlbfegnmkddlbaaWGuard
import Derived.Test.YtlbfegnmkddlbaaWNEv
import Derived.Test.YtlbfegnmkddlbaaWMore
import Derived.Laws.BitsAllLaws
import Derived.Laws.FloatArith
import Derived.Test.YtlbfegnmkddlbaaH1
namespace Go.Proofs.Ytlbfegnmkddlbaa.A
open Go.RowKit Go.Proofs.YtlbfegnmkddlbaaW.PrintWords Go.Proofs.YtlbfegnmkddlbaaW.PrintLast Go.Proofs.YtlbfegnmkddlbaaW.PrintMore
set_option linter.unusedVariables false
/-! ### math.Float64bits, Float64frombits, Abs, IsNaN -/
theorem bits_run (b : Nat) (w : World) : (callFunc 49 #[Value.float .f64 b]).run Try.prog w = .ok (.value (.int .u64 b)) w := by kernel_rfl
theorem frombits_run (n : Int) (w : World) : (callFunc 48 #[Value.int .u64 n]).run Try.prog w = .ok (.value (.float .f64 n.toNat)) w := by kernel_rfl
theorem flw_lt (s : Bool) (v : Nat) (h : v < 2 ^ 53) : flw s v < 18446744073709551616 := by
  have h1 := rungW_lt v h
  have d5 : Ieee.double.signWeight = 2 ^ 63 := rfl
  unfold flw Ieee.Format.word
  rw [d5]
  cases s
  · rw [if_neg (by decide)]
    omega
  · rw [if_pos rfl]
    omega
theorem flw_mod (s : Bool) (v : Nat) (h : v < 2 ^ 53) : flw s v % 9223372036854775808 = flw false v := by
  have h1 := rungW_lt v h
  have d5 : Ieee.double.signWeight = 2 ^ 63 := rfl
  unfold flw Ieee.Format.word
  rw [d5]
  cases s
  · rw [if_neg (by decide)]
    omega
  · rw [if_pos rfl, if_neg (by decide)]
    omega
theorem andnot_top (b : Nat) (h : b < 18446744073709551616) : bits .andNot .u64 (b : Int) 9223372036854775808 = ((b % 9223372036854775808 : Nat) : Int) := by
  have e := u64_andNot_nat b 9223372036854775808 h (by decide)
  rw [show ((9223372036854775808 : Nat) : Int) = 9223372036854775808 from rfl] at e
  rw [e]
  have e2 : b &&& (18446744073709551615 - 9223372036854775808) = b % 9223372036854775808 := Nat.and_two_pow_sub_one_eq_mod b 63
  rw [e2]
set_option maxHeartbeats 400000 in
set_option maxRecDepth 100000 in
theorem abs_calls (s : Bool) (v : Nat) (hv : v < 2 ^ 53) (w : World) : Calls Try.prog 45 #[.float .f64 (flw s v)] w fun e w' => e = .returned (.float .f64 (flw false v)) ∧ Drawn0 w w' := by
  have hb := bits_run
  have hf := frombits_run
  have e1 : bits .andNot .u64 (flw s v : Int) 9223372036854775808 = (flw false v : Int) := by rw [andnot_top _ (flw_lt s v hv), flw_mod s v hv]
  go_enter Try.func45, Try.ntmps45
  go_wp2
  go_ret
  exact ⟨by first | rfl | (simp only [e1, Int.toNat_natCast]), by repeat (first | exact Drawn0.refl _ | apply Drawn0.step)⟩
theorem order_self (s : Bool) (v : Nat) (hv : v < 2 ^ 53) : FloatKind.f64.format.order (flw s v) (flw s v) = some .eq := by
  have h := order_flw s s v v hv hv
  rw [show compare (sgn s v) (sgn s v) = .eq from by simp [compare, compareOfLessAndEq]] at h
  exact h
set_option maxHeartbeats 400000 in
set_option maxRecDepth 100000 in
theorem isnan_calls (s : Bool) (v : Nat) (hv : v < 2 ^ 53) (w : World) : Calls Try.prog 43 #[.float .f64 (flw s v)] w fun e w' => e = .returned (.bool false) ∧ Drawn0 w w' := by
  have e1 := order_self s v hv
  go_enter Try.func43, Try.ntmps43
  go_wp2
  go_ret
  exact ⟨by first | rfl | (simp only [e1]; rfl), by repeat (first | exact Drawn0.refl _ | apply Drawn0.step)⟩
end Go.Proofs.Ytlbfegnmkddlbaa.A
namespace Go.Proofs.Ytlbfegnmkddlbaa.A
open Go.RowKit Go.Proofs.YtlbfegnmkddlbaaW.PrintWords Go.Proofs.YtlbfegnmkddlbaaW.PrintLast Go.Proofs.YtlbfegnmkddlbaaW.PrintMore
set_option linter.unusedVariables false
theorem order_max (v : Nat) (hv : v < 2 ^ 53) : FloatKind.f64.format.order (flw false v) 9218868437227405311 = some .lt := by
  show Ieee.double.order _ _ = _
  obtain ⟨E, hE⟩ : ∃ E : Nat, E = 971 := ⟨_, rfl⟩
  have hr : Ieee.double.read 9218868437227405311 = .number false 9007199254740991 (E : Int) := by rw [hE]; decide
  unfold Ieee.Format.order
  rw [read_flw false v hv, hr]
  unfold Ieee.Datum.order
  have hm : min (-(shW v : Int)) (E : Int) = -(shW v : Int) := by omega
  have h0 : (-(shW v : Int) - -(shW v : Int)).toNat = 0 := by omega
  have h1 : ((E : Int) - -(shW v : Int)).toNat = E + shW v := by omega
  simp only [hm, h0, h1]
  unfold Ieee.signed
  rw [if_neg (by decide), if_neg (by decide), Nat.shiftLeft_eq, Nat.shiftLeft_eq, Nat.pow_zero, Nat.mul_one, Nat.pow_add]
  have hp : 0 < 2 ^ shW v := Nat.two_pow_pos _
  have hX : 2 ≤ 2 ^ E := by
    have : 2 ^ 1 ≤ 2 ^ E := Nat.pow_le_pow_right (by decide) (by omega)
    exact this
  generalize 2 ^ E = X at hX
  have hlt : v * 2 ^ shW v < 9007199254740991 * (X * 2 ^ shW v) := by
    rw [← Nat.mul_assoc]
    exact Nat.mul_lt_mul_of_pos_right (Nat.lt_of_lt_of_le (show v < 9007199254740991 * 2 by omega) (Nat.mul_le_mul_left _ hX)) hp
  simp only [compare, compareOfLessAndEq]
  rw [if_pos (by exact_mod_cast hlt)]
theorem order_small (v : Nat) (h0 : v ≠ 0) (hv : v < 2 ^ 53) : FloatKind.f64.format.order (flw false v) 4503599627370496 ≠ some .lt := by
  show Ieee.double.order _ _ ≠ _
  obtain ⟨E, hE⟩ : ∃ E : Nat, E = 1074 := ⟨_, rfl⟩
  have hr : Ieee.double.read 4503599627370496 = .number false 4503599627370496 (-(E : Int)) := by rw [hE]; decide
  have hl := log_lt h0 hv
  have hs : shW v = 52 - v.log2 := by unfold shW; rw [if_neg h0]
  have hsr : 4503599627370496 ≤ v * 2 ^ shW v := by
    rw [hs]
    exact (mant_range h0 hv).1
  unfold Ieee.Format.order
  rw [read_flw false v hv, hr]
  unfold Ieee.Datum.order
  have hm : min (-(shW v : Int)) (-(E : Int)) = -(E : Int) := by omega
  have h1 : (-(shW v : Int) - -(E : Int)).toNat = E - shW v := by omega
  have h2 : (-(E : Int) - -(E : Int)).toNat = 0 := by omega
  simp only [hm, h1, h2]
  unfold Ieee.signed
  rw [if_neg (by decide), if_neg (by decide), Nat.shiftLeft_eq, Nat.shiftLeft_eq, Nat.pow_zero, Nat.mul_one]
  have hp : 1 ≤ 2 ^ (E - shW v) := Nat.two_pow_pos _
  have hge : 4503599627370496 ≤ v * 2 ^ shW v * 2 ^ (E - shW v) := Nat.le_trans hsr (Nat.le_mul_of_pos_right _ hp)
  simp only [compare, compareOfLessAndEq]
  rw [if_neg (by
    have : ((4503599627370496 : Nat) : Int) ≤ ((v * 2 ^ shW v * 2 ^ (E - shW v) : Nat) : Int) := Int.ofNat_le.2 hge
    omega)]
  split <;> simp
set_option maxHeartbeats 400000 in
set_option maxRecDepth 100000 in
theorem isinf_calls (s : Bool) (v : Nat) (hv : v < 2 ^ 53) (w : World) : Calls Try.prog 42 #[.float .f64 (flw s v), .int .i64 0] w fun e w' => e = .returned (.bool false) ∧ Drawn0 w w' := by
  have e1 := order_max v hv
  go_enter Try.func42, Try.ntmps42
  go_wp2_with (go_at_call 45; refine (abs_calls s v hv _).mono ?_; rintro e w1 ⟨rfl, ⟨m1, rfl⟩⟩)
  go_ret
  exact ⟨by first | rfl | (simp only [e1]; rfl), by repeat (first | exact Drawn0.refl _ | apply Drawn0.step)⟩
set_option maxHeartbeats 400000 in
set_option maxRecDepth 100000 in
theorem norm_calls (s : Bool) (v : Nat) (h0 : v ≠ 0) (hv : v < 2 ^ 53) (w : World) : Calls Try.prog 54 #[.float .f64 (flw s v)] w fun e w' => e = .returned (.tuple #[.float .f64 (flw s v), .int .i64 0]) ∧ Drawn0 w w' := by
  have e1 : (FloatKind.f64.format.order (flw false v) 4503599627370496 == some .lt) = false := beq_eq_false_iff_ne.2 (order_small v h0 hv)
  go_enter Try.func54, Try.ntmps54
  go_wp2_with (go_at_call 45; refine (abs_calls s v hv _).mono ?_; rintro e w1 ⟨rfl, ⟨m1, rfl⟩⟩)
  go_ret2
  exact ⟨by first | rfl | (simp only [e1]; rfl), by repeat (first | exact Drawn0.refl _ | apply Drawn0.step)⟩
end Go.Proofs.Ytlbfegnmkddlbaa.A
namespace Go.Proofs.Ytlbfegnmkddlbaa.A
open Go.RowKit Go.Proofs.YtlbfegnmkddlbaaW.PrintWords Go.Proofs.YtlbfegnmkddlbaaW.PrintLast Go.Proofs.YtlbfegnmkddlbaaW.PrintMore
set_option linter.unusedVariables false
theorem order_nought (v : Nat) (h0 : v ≠ 0) (hv : v < 2 ^ 53) : (FloatKind.f64.format.order (flw false v) 0 == some .eq) = false := by
  have h := order_flw false false v 0 hv (by decide)
  have e : flw false 0 = 0 := by decide
  rw [e] at h
  have h2 : FloatKind.f64.format.order (flw false v) 0 = some (compare (sgn false v) (sgn false 0)) := h
  rw [h2]
  have h3 : sgn false v = (v : Int) := rfl
  have h4 : sgn false 0 = 0 := rfl
  rw [h3, h4]
  have h5 : ¬ ((v : Int) < 0) := by omega
  have h6 : ¬ ((v : Int) = 0) := by omega
  simp only [compare, compareOfLessAndEq, if_neg h5, if_neg h6]
  rfl
/-- The mantissa of a whole number, from 2^52 on. -/
def mantW (v : Nat) : Nat := v * 2 ^ (52 - v.log2)
theorem flw_parts (v : Nat) (h0 : v ≠ 0) (hv : v < 2 ^ 53) : flw false v = (v.log2 + 1023) * 4503599627370496 + (mantW v - 4503599627370496) ∧ 4503599627370496 ≤ mantW v ∧ mantW v < 9007199254740992 ∧ v.log2 ≤ 52 := by
  have hl := log_lt h0 hv
  have hr := mant_range h0 hv
  have e : flw false v = rungW v := by unfold flw Ieee.Format.word; rw [if_neg (by decide)]
  have e2 : rungW v = (v.log2 + 1022) * 2 ^ 52 + mantW v := by unfold rungW mantW; rw [if_neg h0]
  have h1 : 2 ^ 52 ≤ mantW v := hr.1
  have h2 : mantW v < 2 ^ 53 := hr.2
  generalize mantW v = M at *
  rw [e, e2]
  refine ⟨by omega, by omega, by omega, hl⟩
theorem exp_field (v : Nat) (h0 : v ≠ 0) (hv : v < 2 ^ 53) : bits .and .u64 ((flw false v : Int) / 4503599627370496) 2047 = ((v.log2 + 1023 : Nat) : Int) := by
  obtain ⟨e, h1, h2, h3⟩ := flw_parts v h0 hv
  have e2 : (flw false v : Int) / 4503599627370496 = ((v.log2 + 1023 : Nat) : Int) := by rw [e]; omega
  rw [e2]
  have e3 := u64_and_nat (v.log2 + 1023) 2047 (by omega) (by decide)
  have e4 : (v.log2 + 1023) &&& 2047 = v.log2 + 1023 := by
    have := Nat.and_two_pow_sub_one_eq_mod (v.log2 + 1023) 11
    rw [show (2 ^ 11 - 1 : Nat) = 2047 from rfl] at this
    rw [this]
    omega
  rw [e4] at e3
  exact e3
theorem and_top (a : Nat) (h : a < 2 ^ 63) : a &&& 2 ^ 63 = 0 := by
  apply Nat.eq_of_testBit_eq
  intro i
  rw [Nat.testBit_and, Nat.testBit_two_pow, Nat.zero_testBit]
  by_cases e : 63 = i
  · subst e
    rw [Nat.testBit_lt_two_pow h]
    rfl
  · simp [e]
theorem clear_field (v : Nat) (h0 : v ≠ 0) (hv : v < 2 ^ 53) : bits .andNot .u64 (flw false v : Int) 9218868437227405312 = ((mantW v - 4503599627370496 : Nat) : Int) := by
  obtain ⟨e, h1, h2, h3⟩ := flw_parts v h0 hv
  have hlt : flw false v < 2 ^ 63 := by rw [e]; omega
  have e3 := u64_andNot_nat (flw false v) 9218868437227405312 (by omega) (by decide)
  rw [show ((9218868437227405312 : Nat) : Int) = 9218868437227405312 from rfl] at e3
  rw [e3]
  have hc : (18446744073709551615 - 9218868437227405312 : Nat) = 2 ^ 63 ||| (2 ^ 52 - 1) := by decide
  rw [hc, Nat.and_or_distrib_left, Nat.and_two_pow_sub_one_eq_mod, and_top _ hlt, Nat.zero_or]
  have e6 : ((v.log2 + 1023) * 4503599627370496 + (mantW v - 4503599627370496)) % 2 ^ 52 = mantW v - 4503599627370496 := by
    generalize mantW v = M at *
    omega
  rw [e, e6]
theorem set_field (a e : Nat) (ha : a < 4503599627370496) (he : e < 2048) : bits .or .u64 (a : Int) ((e * 4503599627370496 : Nat) : Int) = ((e * 4503599627370496 + a : Nat) : Int) := by
  rw [u64_or_nat a (e * 4503599627370496) (by omega) (by omega)]
  have h := Nat.two_pow_add_eq_or_of_lt (i := 52) (b := a) (show a < 2 ^ 52 from ha) e
  rw [Nat.or_comm, Nat.mul_comm e 4503599627370496, show (4503599627370496 : Nat) = 2 ^ 52 from rfl, ← h]
/-- The word of the fraction that Frexp tells of a whole number. -/
def fracW (v : Nat) : Nat := 1022 * 4503599627370496 + (mantW v - 4503599627370496)
theorem frexp_exp (v : Nat) (h0 : v ≠ 0) (hv : v < 2 ^ 53) : wrap64 (wrap64 (wrap64 (wrap64 (bits .and .u64 ((flw false v : Int) / 4503599627370496) 2047) - 1023) + 1)) = ((v.log2 + 1 : Nat) : Int) := by
  obtain ⟨_, hm1, hm2, hl⟩ := flw_parts v h0 hv
  rw [exp_field v h0 hv]
  unfold wrap64
  omega
theorem frexp_frac (v : Nat) (h0 : v ≠ 0) (hv : v < 2 ^ 53) : (bits .or .u64 (bits .andNot .u64 (flw false v : Int) 9218868437227405312) 4602678819172646912).toNat = fracW v := by
  obtain ⟨_, hm1, hm2, hl⟩ := flw_parts v h0 hv
  rw [clear_field v h0 hv]
  have h := set_field (mantW v - 4503599627370496) 1022 (by omega) (by decide)
  rw [show ((1022 * 4503599627370496 : Nat) : Int) = 4602678819172646912 from rfl] at h
  rw [h, Int.toNat_natCast]
  rfl
set_option maxHeartbeats 1000000 in
set_option maxRecDepth 100000 in
theorem frexp_calls (v : Nat) (h0 : v ≠ 0) (hv : v < 2 ^ 53) (w : World) : Calls Try.prog 51 #[.float .f64 (flw false v)] w fun e w' => e = .returned (.tuple #[.float .f64 (fracW v), .int .i64 ((v.log2 + 1 : Nat) : Int)]) ∧ Drawn0 w w' := by
  have e1 := order_nought v h0 hv
  have hb := bits_run
  have hf := frombits_run
  go_enter Try.func51, Try.ntmps51
  go_wp2_with (first | (go_at_call 42; refine (isinf_calls false v hv _).mono ?_; rintro e w1 ⟨rfl, ⟨m1, rfl⟩⟩) | (go_at_call 43; refine (isnan_calls false v hv _).mono ?_; rintro e w1 ⟨rfl, ⟨m2, rfl⟩⟩) | (go_at_call 54; refine (norm_calls false v h0 hv _).mono ?_; rintro e w1 ⟨rfl, ⟨m3, rfl⟩⟩))
  go_ret2
  exact ⟨by simp only [frexp_exp v h0 hv, frexp_frac v h0 hv]; rfl, by repeat (first | exact Drawn0.refl _ | apply Drawn0.step)⟩
end Go.Proofs.Ytlbfegnmkddlbaa.A
namespace Go.Proofs.Ytlbfegnmkddlbaa.A
open Go.RowKit Go.Proofs.YtlbfegnmkddlbaaW.PrintWords Go.Proofs.YtlbfegnmkddlbaaW.PrintLast Go.Proofs.YtlbfegnmkddlbaaW.PrintMore
set_option linter.unusedVariables false
set_option maxHeartbeats 1000000 in
set_option maxRecDepth 100000 in
theorem Frexp_calls (v : Nat) (h0 : v ≠ 0) (hv : v < 2 ^ 53) (w : World) : Calls Try.prog 46 #[.float .f64 (flw false v)] w fun e w' => e = .returned (.tuple #[.float .f64 (fracW v), .int .i64 ((v.log2 + 1 : Nat) : Int)]) ∧ Drawn0 w w' := by
  go_enter Try.func46, Try.ntmps46
  go_wp2_with (first | (go_at_call 51; refine (frexp_calls v h0 hv _).mono ?_; rintro e w1 ⟨rfl, ⟨m1, rfl⟩⟩))
  go_ret2
  exact ⟨by rfl, by repeat (first | exact Drawn0.refl _ | apply Drawn0.step)⟩
end Go.Proofs.Ytlbfegnmkddlbaa.A
namespace Go.Proofs.Ytlbfegnmkddlbaa.A
open Go.RowKit Go.Proofs.YtlbfegnmkddlbaaW.PrintWords Go.Proofs.YtlbfegnmkddlbaaW.PrintLast Go.Proofs.YtlbfegnmkddlbaaW.PrintMore
set_option linter.unusedVariables false
theorem and_all : ∀ L : Fin 53, bits .and .i64 (((L : Nat) + 1023 : Nat) : Int) 2047 = (((L : Nat) + 1023 : Nat) : Int) := by decide +kernel
theorem ldexp_exp (v k : Nat) (h0 : v ≠ 0) (hv : v < 2 ^ 53) (hk : k ≤ 60) : wrap64 ((k : Int) + wrap64 (bits .and .i64 (wrap64 ((flw false v : Int) / 4503599627370496)) 2047 - 1023)) = (v.log2 : Int) + (k : Int) := by
  obtain ⟨e, h1, h2, h3⟩ := flw_parts v h0 hv
  have e2 : (flw false v : Int) / 4503599627370496 = ((v.log2 + 1023 : Nat) : Int) := by rw [e]; omega
  have e3 : wrap64 ((flw false v : Int) / 4503599627370496) = ((v.log2 + 1023 : Nat) : Int) := by rw [e2]; unfold wrap64; omega
  have e4 := and_all ⟨v.log2, by omega⟩
  simp only at e4
  rw [e3, e4]
  clear e e2 e3 e4
  unfold wrap64
  omega
theorem ldexp_up (v k : Nat) (h0 : v ≠ 0) (hv : v < 2 ^ 53) (hk : k ≤ 60) : IntKind.u64.wrap (IntKind.u64.wrap (wrap64 ((v.log2 : Int) + (k : Int) + 1023)) * 4503599627370496) = ((v.log2 : Int) + (k : Int) + 1023) * 4503599627370496 := by
  obtain ⟨_, _, _, h3⟩ := flw_parts v h0 hv
  have e : ∀ n : Int, IntKind.u64.wrap n = n % 18446744073709551616 := fun n => by simp [IntKind.wrap, IntKind.bits, IntKind.signed]
  have e1 : wrap64 ((v.log2 : Int) + (k : Int) + 1023) = (v.log2 : Int) + (k : Int) + 1023 := by unfold wrap64; omega
  rw [e1, e, e]
  clear e1 e
  omega
theorem log2_shift (v k : Nat) (h0 : v ≠ 0) : (v * 2 ^ k).log2 = v.log2 + k := by
  have h1 : 2 ^ v.log2 ≤ v := Nat.log2_self_le h0
  have h2 : v < 2 ^ (v.log2 + 1) := Nat.lt_log2_self
  refine (Nat.log2_eq_iff (Nat.mul_ne_zero h0 (Nat.pos_iff_ne_zero.1 (Nat.two_pow_pos _)))).2 ⟨?_, ?_⟩
  · rw [Nat.pow_add]
    exact Nat.mul_le_mul_right _ h1
  · rw [show v.log2 + k + 1 = (v.log2 + 1) + k by omega, Nat.pow_add]
    exact Nat.mul_lt_mul_of_pos_right h2 (Nat.two_pow_pos _)
theorem mant_shift (v k : Nat) (h0 : v ≠ 0) (hv : v * 2 ^ k < 2 ^ 53) : mantW (v * 2 ^ k) = mantW v := by
  have hne : v * 2 ^ k ≠ 0 := Nat.mul_ne_zero h0 (Nat.pos_iff_ne_zero.1 (Nat.two_pow_pos _))
  have hl := log_lt hne hv
  unfold mantW
  rw [log2_shift v k h0] at hl ⊢
  rw [Nat.mul_assoc, ← Nat.pow_add, show k + (52 - (v.log2 + k)) = 52 - v.log2 by omega]
theorem ldexp_word (v k : Nat) (h0 : v ≠ 0) (hv : v * 2 ^ k < 2 ^ 53) : (bits .or .u64 (bits .andNot .u64 (flw false v : Int) 9218868437227405312) (((v.log2 : Int) + (k : Int) + 1023) * 4503599627370496)).toNat = flw false (v * 2 ^ k) := by
  have hne : v * 2 ^ k ≠ 0 := Nat.mul_ne_zero h0 (Nat.pos_iff_ne_zero.1 (Nat.two_pow_pos _))
  have hvv : v < 2 ^ 53 := Nat.lt_of_le_of_lt (Nat.le_mul_of_pos_right v (Nat.two_pow_pos k)) hv
  obtain ⟨e, h1, h2, h3⟩ := flw_parts (v * 2 ^ k) hne hv
  rw [mant_shift v k h0 hv] at e h1 h2
  rw [log2_shift v k h0] at e h3
  rw [clear_field v h0 hvv]
  have hs := set_field (mantW v - 4503599627370496) (v.log2 + k + 1023) (by omega) (by omega)
  have ec : ((v.log2 : Int) + (k : Int) + 1023) * 4503599627370496 = (((v.log2 + k + 1023) * 4503599627370496 : Nat) : Int) := by omega
  rw [ec, hs, Int.toNat_natCast, e]
theorem mul_one_run (x : Nat) (hx : x < 2 ^ 53) (W : World) : (binOp .mul 58 (.float .f64 4607182418800017408) (.float .f64 (flw false x))).run Try.prog W = .ok (.float .f64 (flw false x)) W := by
  have h := mul_flw false false 1 x (by decide) hx (by omega)
  have e : flw false 1 = 4607182418800017408 := by decide +kernel
  rw [e, Nat.one_mul] at h
  exact run_float_arith W .mul 58 .f64 _ _ _ h
set_option maxHeartbeats 1000000 in
set_option maxRecDepth 100000 in
theorem ldexp_calls (v k : Nat) (h0 : v ≠ 0) (hv : v * 2 ^ k < 2 ^ 53) (hk : k ≤ 60) (w : World) : Calls Try.prog 53 #[.float .f64 (flw false v), .int .i64 (k : Int)] w fun e w' => e = .returned (.float .f64 (flw false (v * 2 ^ k))) ∧ Drawn0 w w' := by
  have hvv : v < 2 ^ 53 := Nat.lt_of_le_of_lt (Nat.le_mul_of_pos_right v (Nat.two_pow_pos k)) hv
  have e1 := order_nought v h0 hvv
  have hb := bits_run
  have hf := frombits_run
  have hx := ldexp_exp v k h0 hvv hk
  have hl := (flw_parts v h0 hvv).2.2.2
  have c1 : ((v.log2 : Int) + (k : Int) < -1075) = False := eq_false (by omega)
  have c2 : ((1023 : Int) < (v.log2 : Int) + (k : Int)) = False := eq_false (by omega)
  have c3 : ((v.log2 : Int) + (k : Int) < -1022) = False := eq_false (by omega)
  have hm : ∀ W : World, (binOp .mul 58 (.float .f64 4607182418800017408) (.float .f64 (bits .or .u64 (bits .andNot .u64 (flw false v : Int) 9218868437227405312) (((v.log2 : Int) + (k : Int) + 1023) * 4503599627370496)).toNat)).run Try.prog W = .ok (.float .f64 (flw false (v * 2 ^ k))) W := fun W => by
    rw [ldexp_word v k h0 hv]
    exact mul_one_run _ hv W
  clear hl
  go_enter Try.func53, Try.ntmps53
  go_wp2_with (first | (go_at_call 42; refine (isinf_calls false v hvv _).mono ?_; rintro e w1 ⟨rfl, ⟨m1, rfl⟩⟩) | (go_at_call 43; refine (isnan_calls false v hvv _).mono ?_; rintro e w1 ⟨rfl, ⟨m2, rfl⟩⟩) | (go_at_call 54; refine (norm_calls false v h0 hvv _).mono ?_; rintro e w1 ⟨rfl, ⟨m3, rfl⟩⟩))
  rw [ldexp_up v k h0 hvv hk, hm]
  go_wp2
  go_ret
  exact ⟨by rfl, by repeat (first | exact Drawn0.refl _ | apply Drawn0.step)⟩
end Go.Proofs.Ytlbfegnmkddlbaa.A
namespace Go.Proofs.Ytlbfegnmkddlbaa.A
open Go.RowKit Go.Proofs.YtlbfegnmkddlbaaW.PrintWords Go.Proofs.YtlbfegnmkddlbaaW.PrintLast Go.Proofs.YtlbfegnmkddlbaaW.PrintMore
set_option linter.unusedVariables false
set_option maxHeartbeats 1000000 in
set_option maxRecDepth 100000 in
theorem Ldexp_calls (v k : Nat) (h0 : v ≠ 0) (hv : v * 2 ^ k < 2 ^ 53) (hk : k ≤ 60) (w : World) : Calls Try.prog 47 #[.float .f64 (flw false v), .int .i64 (k : Int)] w fun e w' => e = .returned (.float .f64 (flw false (v * 2 ^ k))) ∧ Drawn0 w w' := by
  go_enter Try.func47, Try.ntmps47
  go_wp2_with (first | (go_at_call 53; refine (ldexp_calls v k h0 hv hk _).mono ?_; rintro e w1 ⟨rfl, ⟨m1, rfl⟩⟩))
  go_ret
  exact ⟨by rfl, by repeat (first | exact Drawn0.refl _ | apply Drawn0.step)⟩
theorem read_frac (v : Nat) (h0 : v ≠ 0) (hv : v < 2 ^ 53) : Ieee.double.read (fracW v) = .number false (mantW v) (-53) := by
  obtain ⟨_, h1, h2, _⟩ := flw_parts v h0 hv
  have d3 : Ieee.double.binade = 2 ^ 52 := rfl
  have d4 : Ieee.double.infRung = 2047 * 2 ^ 52 := rfl
  have d5 : Ieee.double.signWeight = 2 ^ 63 := rfl
  have d2 : Ieee.double.leastPlace = -1074 := rfl
  have hF : fracW v = 1022 * 4503599627370496 + (mantW v - 4503599627370496) := rfl
  generalize mantW v = M at *
  generalize fracW v = F at *
  have hneg : (F / 2 ^ 63 % 2 == 1) = false := by
    rw [show F / 2 ^ 63 = 0 by omega]
    rfl
  have hrung : F % 2 ^ 63 = F := by omega
  unfold Ieee.Format.read
  simp only [d5, d3, d4, d2, hneg, hrung]
  have e3 : F % 2 ^ 52 = M - 2 ^ 52 := by omega
  have e4 : F / 2 ^ 52 = 1022 := by omega
  rw [if_neg (by omega), if_pos (by omega), e3, e4]
  have e5 : 2 ^ 52 + (M - 2 ^ 52) = M := by omega
  rw [e5]
  rfl
theorem order_frac (r p : Nat) (h0 : r ≠ 0) (hr : r < 2 ^ 53) (h1 : p ≠ 0) (hp : p < 2 ^ 53) : FloatKind.f64.format.order (fracW r) (fracW p) = some (compare (mantW r : Int) (mantW p : Int)) := by
  show Ieee.double.order _ _ = _
  unfold Ieee.Format.order
  rw [read_frac r h0 hr, read_frac p h1 hp]
  unfold Ieee.Datum.order Ieee.signed
  simp
end Go.Proofs.Ytlbfegnmkddlbaa.A
namespace Go.Proofs.Ytlbfegnmkddlbaa.A
open Go.RowKit Go.Op
set_option linter.unusedVariables false
theorem xor_top_nat (n : Nat) (h : n < 18446744073709551616) : n ^^^ 9223372036854775808 = (9223372036854775808 + n) % 18446744073709551616 := by
  apply Nat.eq_of_testBit_eq
  intro i
  have e1 : (9223372036854775808 : Nat) = 2 ^ 63 := by decide
  have e2 : (18446744073709551616 : Nat) = 2 ^ 64 := by decide
  rw [e1, e2, Nat.testBit_xor, Nat.testBit_mod_two_pow, Nat.testBit_two_pow]
  rcases Nat.lt_trichotomy i 63 with hi | hi | hi
  · rw [Nat.testBit_two_pow_add_gt hi]
    have : ¬ 63 = i := by omega
    have h64 : i < 64 := by omega
    simp [this, h64]
  · subst hi
    rw [Nat.testBit_two_pow_add_eq]
    simp
  · have h64 : ¬ i < 64 := by omega
    have hb : n.testBit i = false := Nat.testBit_lt_two_pow (by
      have : 2 ^ 64 ≤ 2 ^ i := Nat.pow_le_pow_right (by decide) (by omega)
      rw [e2] at h
      omega)
    have : ¬ 63 = i := by omega
    simp [hb, h64, this]
theorem neg_flw (s : Bool) (v : Nat) (hv : v < 2 ^ 53) : negFloat .f64 (flw s v) = flw (!s) v := by
  have h1 := rungW_lt v hv
  have d5 : Ieee.double.signWeight = 2 ^ 63 := rfl
  have e : negFloat .f64 (flw s v) = flw s v ^^^ 9223372036854775808 := rfl
  rw [e, xor_top_nat _ (flw_lt s v hv)]
  unfold flw Ieee.Format.word
  rw [d5]
  cases s
  · rw [if_neg (by decide), if_pos (by decide)]
    omega
  · rw [if_pos rfl, if_neg (by decide)]
    omega
end Go.Proofs.Ytlbfegnmkddlbaa.A
namespace Go.Proofs.Ytlbfegnmkddlbaa.A
open Go.RowKit Go.Proofs.YtlbfegnmkddlbaaW.PrintWords Go.Proofs.YtlbfegnmkddlbaaW.PrintLast Go.Proofs.YtlbfegnmkddlbaaW.PrintMore
set_option linter.unusedVariables false
theorem neg_run (s : Bool) (v : Nat) (hv : v < 2 ^ 53) (W : World) : (Op.unary .neg (.float .f64 (flw s v))).run Try.prog W = .ok (.float .f64 (flw (!s) v)) W := by
  rw [← neg_flw s v hv]
  rfl
theorem wrap_less (a b k : Nat) (ha : a ≤ 52) (hb : b ≤ 52) (h : (a : Int) + 0 - ((b : Int) + 1) = (k : Int)) : wrap64 (wrap64 (a : Int) - ((b : Int) + 1)) = (k : Int) := by
  unfold wrap64
  omega
theorem wrap_more (a b k : Nat) (ha : a ≤ 52) (hb : b ≤ 52) (h : (a : Int) + 1 - ((b : Int) + 1) = (k : Int)) : wrap64 ((a : Int) + 1 - ((b : Int) + 1)) = (k : Int) := by
  unfold wrap64
  omega
theorem fit_pow (m p : Nat) (hm0 : m ≠ 0) (hm : m < 2 ^ 53) (h0 : p ≠ 0) (hp : p < 2 ^ 53) (hge : p ≤ m) : ∃ k : Nat, (m.log2 : Int) + (if mantW m < mantW p then 0 else 1) - ((p.log2 : Int) + 1) = (k : Int) ∧ p * 2 ^ k ≤ m ∧ k ≤ 60 := by
  have hl := log_lt hm0 hm
  have hlp := log_lt h0 hp
  obtain ⟨m1, m2⟩ := mant_range hm0 hm
  obtain ⟨p1, p2⟩ := mant_range h0 hp
  have hll : p.log2 ≤ m.log2 := by
    rw [Nat.le_log2 hm0]
    exact Nat.le_trans (Nat.log2_self_le h0) hge
  have pos : 0 < 2 ^ (52 - m.log2) := Nat.two_pow_pos _
  by_cases hf : mantW m < mantW p
  · have hne : p.log2 ≠ m.log2 := by
      intro e
      unfold mantW at hf
      rw [e] at hf
      exact absurd (Nat.lt_of_mul_lt_mul_right hf) (by omega)
    refine ⟨m.log2 - p.log2 - 1, by rw [if_pos hf]; omega, ?_, by omega⟩
    have e : p * 2 ^ (m.log2 - p.log2 - 1) * 2 ^ (52 - m.log2) * 2 = mantW p := by
      unfold mantW
      rw [Nat.mul_assoc, Nat.mul_assoc, ← Nat.pow_succ, ← Nat.pow_add]
      congr 2
      omega
    have hq : p * 2 ^ (m.log2 - p.log2 - 1) * 2 ^ (52 - m.log2) ≤ m * 2 ^ (52 - m.log2) := by
      have h2 : mantW p < 2 ^ 53 := p2
      generalize p * 2 ^ (m.log2 - p.log2 - 1) * 2 ^ (52 - m.log2) = A at e
      generalize m * 2 ^ (52 - m.log2) = B at m1
      omega
    exact Nat.le_of_mul_le_mul_right hq pos
  · refine ⟨m.log2 - p.log2, by rw [if_neg hf]; omega, ?_, by omega⟩
    have e : p * 2 ^ (m.log2 - p.log2) * 2 ^ (52 - m.log2) = mantW p := by
      unfold mantW
      rw [Nat.mul_assoc, ← Nat.pow_add, show m.log2 - p.log2 + (52 - m.log2) = 52 - p.log2 by omega]
    have hq : p * 2 ^ (m.log2 - p.log2) * 2 ^ (52 - m.log2) ≤ m * 2 ^ (52 - m.log2) := by
      rw [e]
      exact Nat.le_of_not_lt hf
    exact Nat.le_of_mul_le_mul_right hq pos
theorem sub_run (a b : Nat) (ha : a < 2 ^ 53) (hab : b ≤ a) (W : World) : (binOp .sub 58 (.float .f64 (flw false a)) (.float .f64 (flw false b))).run Try.prog W = .ok (.float .f64 (flw false (a - b))) W := by
  have hs : sgn false a + sgn (!false) b = ((a - b : Nat) : Int) := by
    show (a : Int) + -(b : Int) = _
    omega
  have h := sub_flw false false a b ha (by omega) (by rw [hs]; omega)
  rw [hs, Int.natAbs_natCast] at h
  have e : (if ((a - b : Nat) : Int) = 0 then false && !false else decide (((a - b : Nat) : Int) < 0)) = false := by
    split
    · rfl
    · exact decide_eq_false (by omega)
  rw [e] at h
  exact run_float_arith W .sub 58 .f64 _ _ _ h
set_option maxHeartbeats 1000000 in
set_option maxRecDepth 100000 in
theorem mod_plus (s : Bool) (v p : Nat) (hs : s = true → v = 0) (hv : v < 2 ^ 53) (h0 : p ≠ 0) (hp : p < 2 ^ 53) (w : World) : Calls Try.prog 41 #[.float .f64 (flw s v), .float .f64 (flw false p)] w fun e w' => e = .returned (.float .f64 (flw s (v % p))) ∧ Drawn0 w w' := by
  have e1 := order_nought p h0 hp
  have e2 : (FloatKind.f64.format.order (flw s v) 0 == some .lt) = false := by
    have h := order_flw s false v 0 hv (by decide)
    rw [show flw false 0 = 0 by decide] at h
    have h2 : FloatKind.f64.format.order (flw s v) 0 = some (compare (sgn s v) (sgn false 0)) := h
    have h3 : ¬ (sgn s v < 0) := by unfold sgn; cases s <;> simp; exact hs rfl
    rw [h2]
    simp only [compare, compareOfLessAndEq, show sgn false 0 = 0 from rfl, if_neg h3]
    split <;> rfl
  go_enter Try.func41, Try.ntmps41
  go_wp2_with (first | (go_at_call 42; refine (isinf_calls s v hv _).mono ?_; rintro e w1 ⟨rfl, ⟨m1, rfl⟩⟩) | (go_at_call 43; refine (isnan_calls s v hv _).mono ?_; rintro e w1 ⟨rfl, ⟨m2, rfl⟩⟩) | (go_at_call 43; refine (isnan_calls false p hp _).mono ?_; rintro e w1 ⟨rfl, ⟨m2, rfl⟩⟩) | (go_at_call 45; refine (abs_calls false p hp _).mono ?_; rintro e w1 ⟨rfl, ⟨m3, rfl⟩⟩) | (go_at_call 46; refine (Frexp_calls p h0 hp _).mono ?_; rintro e w1 ⟨rfl, ⟨m4, rfl⟩⟩))
  go_loopg [7] (v + 1) (fun kq v7 w' => ∃ m : Nat, v7 = .float .f64 (flw s m) ∧ Aside0 (m % p = v % p ∧ m ≤ v ∧ m < kq) ∧ Drawn0 w w')
  case atStart => exact ⟨v, rfl, ⟨rfl, Nat.le_refl _, Nat.lt_succ_self _⟩, by repeat (first | exact Drawn0.refl _ | apply Drawn0.step)⟩
  case round =>
    obtain ⟨m, rfl, HM, ⟨m5, rfl⟩⟩ := hrel
    have hm : m < 2 ^ 53 := Nat.lt_of_le_of_lt HM.out.2.1 hv
    have ho : FloatKind.f64.format.order (flw s m) (flw false p) = some (compare (sgn s m) (sgn false p)) := order_flw s false m p hm hp
    by_cases hge : p ≤ m
    · have hs0 : s = false := by
        cases s
        · rfl
        · exfalso
          have h1 := hs rfl
          have h2 := HM.out.2.1
          omega
      subst hs0
      have hm0 : m ≠ 0 := by omega
      obtain ⟨k, hk, hfit, hk60⟩ := fit_pow m p hm0 hm h0 hp hge
      have HFit := Aside0.mk hfit
      have HK := Aside0.mk hk
      have hfr := order_frac m p hm0 hm h0 hp
      have hmul : p * 2 ^ k < 2 ^ 53 := Nat.lt_of_le_of_lt hfit hm
      have hp1 : 0 < p * 2 ^ k := Nat.mul_pos (Nat.pos_of_ne_zero h0) (Nat.two_pow_pos _)
      have hsub := sub_run m (p * 2 ^ k) hm hfit
      have hN : Aside0 ((m - p * 2 ^ k) % p = v % p ∧ m - p * 2 ^ k ≤ v ∧ m - p * 2 ^ k < gk - 1) := ⟨by
        have h1 := HM.out
        refine ⟨?_, by omega, by omega⟩
        rw [← h1.1, Nat.sub_mul_mod hfit]⟩
      clear hfit hk
      have hgk : Aside0 (gk - 1 < gk) := ⟨by have := HM.out; omega⟩
      have hord : FloatKind.f64.format.order (flw false m) (flw false p) = some (if m = p then .eq else .gt) := by
        rw [ho]
        have h1 : sgn false m = (m : Int) := rfl
        have h2 : sgn false p = (p : Int) := rfl
        rw [h1, h2]
        have h3 : ¬ ((m : Int) < (p : Int)) := by omega
        simp only [compare, compareOfLessAndEq, if_neg h3]
        by_cases e : m = p
        · rw [if_pos e, if_pos (by omega)]
        · rw [if_neg e, if_neg (by omega)]
      clear ho
      have hge2 : (FloatKind.f64.format.order (flw false m) (flw false p) == some .gt || FloatKind.f64.format.order (flw false m) (flw false p) == some .eq) = true := by
        rw [hord]
        split <;> rfl
      by_cases hf : mantW m < mantW p
      · have hfl : (FloatKind.f64.format.order (fracW m) (fracW p) == some .lt) = true := by
          rw [hfr]
          have h3 : (mantW m : Int) < (mantW p : Int) := by omega
          simp only [compare, compareOfLessAndEq, if_pos h3]
          rfl
        have hl := log_lt hm0 hm
        have hlp := log_lt h0 hp
        have hk1 : wrap64 (wrap64 (m.log2 : Int) - ((p.log2 : Int) + 1)) = (k : Int) := by
          have h := HK.out
          rw [if_pos hf] at h
          exact wrap_less _ _ _ hl hlp h
        have HMul := Aside0.mk hmul
        have HSub := Aside0.mk hsub
        have HK1 := Aside0.mk hk1
        clear hfr hmul hp1 hsub hord hk1 hl hlp
        go_wp2_with (first | (go_at_call 46; refine (Frexp_calls m hm0 hm _).mono ?_; rintro e w1 ⟨rfl, ⟨m6, rfl⟩⟩) | (go_at_call 47; fail))
        rw [HK1.out]
        refine (Ldexp_calls p k h0 HMul.out hk60 _).mono ?_
        rintro e w1 ⟨rfl, ⟨m7, rfl⟩⟩
        go_wp2
        rw [HSub.out]
        go_wp2
        go_roundg (gk - 1)
        case measure => exact hgk.out
        case rel => exact ⟨m - p * 2 ^ k, rfl, hN, by repeat (first | exact Drawn0.refl _ | apply Drawn0.step)⟩
      · have hfl : (FloatKind.f64.format.order (fracW m) (fracW p) == some .lt) = false := by
          rw [hfr]
          have h3 : ¬ ((mantW m : Int) < (mantW p : Int)) := by omega
          simp only [compare, compareOfLessAndEq, if_neg h3]
          split <;> rfl
        have hl := log_lt hm0 hm
        have hlp := log_lt h0 hp
        have hk1 : wrap64 ((m.log2 : Int) + 1 - ((p.log2 : Int) + 1)) = (k : Int) := by
          have h := HK.out
          rw [if_neg hf] at h
          exact wrap_more _ _ _ hl hlp h
        have HMul := Aside0.mk hmul
        have HSub := Aside0.mk hsub
        have HK1 := Aside0.mk hk1
        clear hfr hmul hp1 hsub hord hk1 hl hlp
        go_wp2_with (first | (go_at_call 46; refine (Frexp_calls m hm0 hm _).mono ?_; rintro e w1 ⟨rfl, ⟨m6, rfl⟩⟩) | (go_at_call 47; fail))
        rw [HK1.out]
        refine (Ldexp_calls p k h0 HMul.out hk60 _).mono ?_
        rintro e w1 ⟨rfl, ⟨m7, rfl⟩⟩
        go_wp2
        rw [HSub.out]
        go_wp2
        go_roundg (gk - 1)
        case measure => exact hgk.out
        case rel => exact ⟨m - p * 2 ^ k, rfl, hN, by repeat (first | exact Drawn0.refl _ | apply Drawn0.step)⟩
    · have hlt : FloatKind.f64.format.order (flw s m) (flw false p) = some .lt := by
        rw [ho]
        have h3 : sgn s m < sgn false p := by unfold sgn; cases s <;> simp <;> omega
        simp only [compare, compareOfLessAndEq, if_pos h3]
      clear ho
      have HE : Aside0 (m = v % p) := ⟨by rw [← HM.out.1]; exact (Nat.mod_eq_of_lt (by omega)).symm⟩
      go_wp2

      go_ret
      exact ⟨by rw [← HE.out]; rfl, by repeat (first | exact Drawn0.refl _ | apply Drawn0.step)⟩
set_option maxHeartbeats 1000000 in
set_option maxRecDepth 100000 in
theorem mod_minus (v p : Nat) (hv0 : v ≠ 0) (hv : v < 2 ^ 53) (h0 : p ≠ 0) (hp : p < 2 ^ 53) (w : World) : Calls Try.prog 41 #[.float .f64 (flw true v), .float .f64 (flw false p)] w fun e w' => e = .returned (.float .f64 (flw true (v % p))) ∧ Drawn0 w w' := by
  have e1 := order_nought p h0 hp
  have e2 : (FloatKind.f64.format.order (flw true v) 0 == some .lt) = true := by
    have h := order_flw true false v 0 hv (by decide)
    rw [show flw false 0 = 0 by decide] at h
    have h2 : FloatKind.f64.format.order (flw true v) 0 = some (compare (sgn true v) (sgn false 0)) := h
    have h3 : sgn true v < 0 := by show -(v : Int) < 0; omega
    rw [h2]
    simp only [compare, compareOfLessAndEq, show sgn false 0 = 0 from rfl, if_pos h3]
    rfl
  have hn1 := neg_run true v hv
  have hn2 := neg_run false (v % p) (Nat.lt_of_le_of_lt (Nat.mod_le _ _) hv)
  go_enter Try.func41, Try.ntmps41
  go_wp2_with (first | (go_at_call 42; refine (isinf_calls true v hv _).mono ?_; rintro e w1 ⟨rfl, ⟨m1, rfl⟩⟩) | (go_at_call 43; refine (isnan_calls true v hv _).mono ?_; rintro e w1 ⟨rfl, ⟨m2, rfl⟩⟩) | (go_at_call 43; refine (isnan_calls false p hp _).mono ?_; rintro e w1 ⟨rfl, ⟨m2, rfl⟩⟩) | (go_at_call 45; refine (abs_calls false p hp _).mono ?_; rintro e w1 ⟨rfl, ⟨m3, rfl⟩⟩) | (go_at_call 46; refine (Frexp_calls p h0 hp _).mono ?_; rintro e w1 ⟨rfl, ⟨m4, rfl⟩⟩))
  go_loopg [7] (v + 1) (fun kq v7 w' => ∃ m : Nat, v7 = .float .f64 (flw false m) ∧ Aside0 (m % p = v % p ∧ m ≤ v ∧ m < kq) ∧ Drawn0 w w')
  case atStart => exact ⟨v, rfl, ⟨rfl, Nat.le_refl _, Nat.lt_succ_self _⟩, by repeat (first | exact Drawn0.refl _ | apply Drawn0.step)⟩
  case round =>
    obtain ⟨m, rfl, HM, ⟨m5, rfl⟩⟩ := hrel
    have hm : m < 2 ^ 53 := Nat.lt_of_le_of_lt HM.out.2.1 hv
    have ho : FloatKind.f64.format.order (flw false m) (flw false p) = some (compare (sgn false m) (sgn false p)) := order_flw false false m p hm hp
    by_cases hge : p ≤ m
    · have hm0 : m ≠ 0 := by omega
      obtain ⟨k, hk, hfit, hk60⟩ := fit_pow m p hm0 hm h0 hp hge
      have HFit := Aside0.mk hfit
      have HK := Aside0.mk hk
      have hfr := order_frac m p hm0 hm h0 hp
      have hmul : p * 2 ^ k < 2 ^ 53 := Nat.lt_of_le_of_lt hfit hm
      have hp1 : 0 < p * 2 ^ k := Nat.mul_pos (Nat.pos_of_ne_zero h0) (Nat.two_pow_pos _)
      have hsub := sub_run m (p * 2 ^ k) hm hfit
      have hN : Aside0 ((m - p * 2 ^ k) % p = v % p ∧ m - p * 2 ^ k ≤ v ∧ m - p * 2 ^ k < gk - 1) := ⟨by
        have h1 := HM.out
        refine ⟨?_, by omega, by omega⟩
        rw [← h1.1, Nat.sub_mul_mod hfit]⟩
      clear hfit hk
      have hgk : Aside0 (gk - 1 < gk) := ⟨by have := HM.out; omega⟩
      have hord : FloatKind.f64.format.order (flw false m) (flw false p) = some (if m = p then .eq else .gt) := by
        rw [ho]
        have h1 : sgn false m = (m : Int) := rfl
        have h2 : sgn false p = (p : Int) := rfl
        rw [h1, h2]
        have h3 : ¬ ((m : Int) < (p : Int)) := by omega
        simp only [compare, compareOfLessAndEq, if_neg h3]
        by_cases e : m = p
        · rw [if_pos e, if_pos (by omega)]
        · rw [if_neg e, if_neg (by omega)]
      clear ho
      have hge2 : (FloatKind.f64.format.order (flw false m) (flw false p) == some .gt || FloatKind.f64.format.order (flw false m) (flw false p) == some .eq) = true := by
        rw [hord]
        split <;> rfl
      by_cases hf : mantW m < mantW p
      · have hfl : (FloatKind.f64.format.order (fracW m) (fracW p) == some .lt) = true := by
          rw [hfr]
          have h3 : (mantW m : Int) < (mantW p : Int) := by omega
          simp only [compare, compareOfLessAndEq, if_pos h3]
          rfl
        have hl := log_lt hm0 hm
        have hlp := log_lt h0 hp
        have hk1 : wrap64 (wrap64 (m.log2 : Int) - ((p.log2 : Int) + 1)) = (k : Int) := by
          have h := HK.out
          rw [if_pos hf] at h
          exact wrap_less _ _ _ hl hlp h
        have HMul := Aside0.mk hmul
        have HSub := Aside0.mk hsub
        have HK1 := Aside0.mk hk1
        clear hfr hmul hp1 hsub hord hk1 hl hlp
        go_wp2_with (first | (go_at_call 46; refine (Frexp_calls m hm0 hm _).mono ?_; rintro e w1 ⟨rfl, ⟨m6, rfl⟩⟩) | (go_at_call 47; fail))
        rw [HK1.out]
        refine (Ldexp_calls p k h0 HMul.out hk60 _).mono ?_
        rintro e w1 ⟨rfl, ⟨m7, rfl⟩⟩
        go_wp2
        rw [HSub.out]
        go_wp2
        go_roundg (gk - 1)
        case measure => exact hgk.out
        case rel => exact ⟨m - p * 2 ^ k, rfl, hN, by repeat (first | exact Drawn0.refl _ | apply Drawn0.step)⟩
      · have hfl : (FloatKind.f64.format.order (fracW m) (fracW p) == some .lt) = false := by
          rw [hfr]
          have h3 : ¬ ((mantW m : Int) < (mantW p : Int)) := by omega
          simp only [compare, compareOfLessAndEq, if_neg h3]
          split <;> rfl
        have hl := log_lt hm0 hm
        have hlp := log_lt h0 hp
        have hk1 : wrap64 ((m.log2 : Int) + 1 - ((p.log2 : Int) + 1)) = (k : Int) := by
          have h := HK.out
          rw [if_neg hf] at h
          exact wrap_more _ _ _ hl hlp h
        have HMul := Aside0.mk hmul
        have HSub := Aside0.mk hsub
        have HK1 := Aside0.mk hk1
        clear hfr hmul hp1 hsub hord hk1 hl hlp
        go_wp2_with (first | (go_at_call 46; refine (Frexp_calls m hm0 hm _).mono ?_; rintro e w1 ⟨rfl, ⟨m6, rfl⟩⟩) | (go_at_call 47; fail))
        rw [HK1.out]
        refine (Ldexp_calls p k h0 HMul.out hk60 _).mono ?_
        rintro e w1 ⟨rfl, ⟨m7, rfl⟩⟩
        go_wp2
        rw [HSub.out]
        go_wp2
        go_roundg (gk - 1)
        case measure => exact hgk.out
        case rel => exact ⟨m - p * 2 ^ k, rfl, hN, by repeat (first | exact Drawn0.refl _ | apply Drawn0.step)⟩
    · have hlt : FloatKind.f64.format.order (flw false m) (flw false p) = some .lt := by
        rw [ho]
        have h3 : sgn false m < sgn false p := by show (m : Int) < (p : Int); omega
        simp only [compare, compareOfLessAndEq, if_pos h3]
      clear ho
      have hE : m = v % p := by rw [← HM.out.1]; exact (Nat.mod_eq_of_lt (by omega)).symm
      have hn3 := neg_run false m hm
      have HE := Aside0.mk hE
      clear hE hn1 hn2
      go_wp2

      go_ret
      exact ⟨by rw [← HE.out]; rfl, by repeat (first | exact Drawn0.refl _ | apply Drawn0.step)⟩
end Go.Proofs.Ytlbfegnmkddlbaa.A
