/- The tag's numbers, and the tag of bytes. -/
import Derived.Test.YtlbfegnmkddlbaaProg
import Derived.Below
import Derived.Deep.Draws
import Derived.Deep.AppendLies
import Derived.Maps.AppendAt
import Derived.OwnWalk
import Derived.Laws.BytesArg
import Derived.Laws.MakeOwn
import Derived.Laws.OwnMore
import Derived.Deep.OwnRows
import Derived.Tactics
import Derived.Lib.ConvBytes
import Derived.Laws.Slices
import Derived.WalkKit
import Derived.KernelRfl
import Derived.RowKit3
import Derived.Deep.LoopGhost
import Derived.Deep.QuietTactic
import Derived.BigQuiet
import Derived.WideLaws
import Derived.Deep.DeepCutAuto
import Derived.Deep.CutBlock
import Derived.Deep.RegionHeld3
import Derived.Laws.Rows
import Derived.Lib.AppendStr
import Derived.ArgAppend
import Derived.Laws.IdiomCopy
import Derived.OrdersHeld
import Derived.Laws.BitsLemmas
import Derived.RowKit
import Derived.Laws.Cover1
import Derived.Deep.RegionWith
import Derived.Deep.RegionLaw
import Derived.WalkMore
import Derived.ScopeJumps
import Derived.Test.YtlbfegnmkddlbaaWWords
import Derived.Test.YtlbfegnmkddlbaaWLast
import Derived.Test.YtlbfegnmkddlbaaWTab
import Derived.Test.YtlbfegnmkddlbaaWFour
import Derived.Test.YtlbfegnmkddlbaaWQPut
import Derived.Test.YtlbfegnmkddlbaaWApart
import Derived.Test.YtlbfegnmkddlbaaWArr
import Derived.Test.YtlbfegnmkddlbaaWZeros
import Derived.Test.YtlbfegnmkddlbaaWFoot
import Derived.Test.YtlbfegnmkddlbaaWKept
import Derived.Test.YtlbfegnmkddlbaaWShare
import Derived.Test.YtlbfegnmkddlbaaWN
import Derived.Test.YtlbfegnmkddlbaaWFootNe
import Derived.Test.YtlbfegnmkddlbaaWAt
import Derived.Test.YtlbfegnmkddlbaaWEqStruct
import Derived.Test.YtlbfegnmkddlbaaWRepsOne
import Derived.Test.YtlbfegnmkddlbaaWInv
import Derived.Test.YtlbfegnmkddlbaaWInvWords
import Derived.Test.YtlbfegnmkddlbaaWGuard
import Derived.Test.YtlbfegnmkddlbaaWNEv
import Derived.Test.YtlbfegnmkddlbaaWMore
import Derived.Laws.ComplexArith
import Derived.Laws.Cover3
import Derived.Test.YtlbfegnmkddlbaaH2
namespace Go.Proofs.Ytlbfegnmkddlbaa.A
open Go.RowKit Go.Proofs.YtlbfegnmkddlbaaW.PrintWords Go.Proofs.YtlbfegnmkddlbaaW.PrintLast Go.Proofs.YtlbfegnmkddlbaaW.PrintMore
set_option linter.unusedVariables false
/-- The float's word has this whole number. -/
def Fl (x : Nat) (n : Int) : Prop := ∃ s, x = flw s n.natAbs ∧ sgn s n.natAbs = n
theorem Fl.mk (s : Bool) (v : Nat) : Fl (flw s v) (sgn s v) := by
  refine ⟨s, ?_, ?_⟩
  · cases s <;> simp [sgn]
  · cases s <;> simp [sgn]
theorem Fl.mk' (s : Bool) (v : Nat) (n : Int) (h : sgn s v = n) : Fl (flw s v) n := by
  subst h
  exact Fl.mk s v
theorem Fl.add_run {x y : Nat} {n m : Int} (hx : Fl x n) (hy : Fl y m) (hn : n.natAbs < 2 ^ 53) (hm : m.natAbs < 2 ^ 53) (h : (n + m).natAbs < 2 ^ 53) :
    ∃ z, Fl z (n + m) ∧ floatBits .add .f64 x y = some z := by
  obtain ⟨s, rfl, hs⟩ := hx
  obtain ⟨t, rfl, ht⟩ := hy
  have h2 := add_flw s t _ _ hn hm (by rw [hs, ht]; exact h)
  rw [hs, ht] at h2
  refine ⟨_, ⟨_, rfl, ?_⟩, h2⟩
  by_cases h0 : n + m = 0
  · rw [if_pos h0, h0]
    cases (s && t) <;> simp [sgn]
  · rw [if_neg h0]
    by_cases hl : n + m < 0
    · rw [decide_eq_true hl]
      simp only [sgn, if_true]
      omega
    · rw [decide_eq_false hl]
      simp only [sgn, Bool.false_eq_true, if_false]
      omega
theorem sgn_not (s : Bool) (v : Nat) : sgn (!s) v = -(sgn s v) := by cases s <;> simp [sgn]
theorem Fl.sub_run {x y : Nat} {n m : Int} (hx : Fl x n) (hy : Fl y m) (hn : n.natAbs < 2 ^ 53) (hm : m.natAbs < 2 ^ 53) (h : (n - m).natAbs < 2 ^ 53) :
    ∃ z, Fl z (n - m) ∧ floatBits .sub .f64 x y = some z := by
  obtain ⟨s, rfl, hs⟩ := hx
  obtain ⟨t, rfl, ht⟩ := hy
  have e : sgn s n.natAbs + sgn (!t) m.natAbs = n - m := by rw [sgn_not, hs, ht]; omega
  have h2 := sub_flw s t _ _ hn hm (by rw [e]; exact h)
  rw [e] at h2
  refine ⟨_, ⟨_, rfl, ?_⟩, h2⟩
  by_cases h0 : n - m = 0
  · rw [if_pos h0, h0]
    cases (s && !t) <;> simp [sgn]
  · rw [if_neg h0]
    by_cases hl : n - m < 0
    · rw [decide_eq_true hl]
      simp only [sgn, if_true]
      omega
    · rw [decide_eq_false hl]
      simp only [sgn, Bool.false_eq_true, if_false]
      omega
theorem Fl.mul_run {x y : Nat} {n m : Int} (hx : Fl x n) (hy : Fl y m) (hn : n.natAbs < 2 ^ 53) (hm : m.natAbs < 2 ^ 53) (h : (n * m).natAbs < 2 ^ 53) :
    ∃ z, Fl z (n * m) ∧ floatBits .mul .f64 x y = some z := by
  obtain ⟨s, rfl, hs⟩ := hx
  obtain ⟨t, rfl, ht⟩ := hy
  have h2 := mul_flw s t _ _ hn hm (by rw [← Int.natAbs_mul]; exact h)
  refine ⟨_, Fl.mk' _ _ _ ?_, h2⟩
  rw [show n * m = sgn s n.natAbs * sgn t m.natAbs by rw [hs, ht]]
  cases s <;> cases t <;> simp [sgn, Int.neg_mul, Int.mul_neg]
theorem Fl.run2 {op : BinOp} {x y z : Nat} (t : TypeId) (h : floatBits op .f64 x y = some z) (W : World) : (binOp op t (.float .f64 x) (.float .f64 y)).run Try.prog W = .ok (.float .f64 z) W := run_float_arith W op t .f64 x y z h
theorem Fl.csum {a b c d re im : Nat} (h1 : floatBits .add .f64 a c = some re) (h2 : floatBits .add .f64 b d = some im) (t : TypeId) (W : World) : (binOp .add t (.complex .f64 a b) (.complex .f64 c d)).run Try.prog W = .ok (.complex .f64 re im) W := by
  refine run_complex_sum W .add (.inl rfl) t .f64 a b c d re im ?_
  unfold cSumBits
  rw [h1, h2]
  rfl
theorem Fl.below0 {x : Nat} {n : Int} (hx : Fl x n) (hn : n.natAbs < 2 ^ 53) : (FloatKind.f64.format.order x 0 == some .lt) = decide (n < 0) := by
  obtain ⟨s, rfl, hs⟩ := hx
  have h := order_flw s false n.natAbs 0 hn (by decide)
  rw [show flw false 0 = 0 by decide, hs, show sgn false 0 = 0 from rfl] at h
  have h2 : FloatKind.f64.format.order (flw s n.natAbs) 0 = some (compare n 0) := h
  rw [h2]
  by_cases hl : n < 0
  · simp only [compare, compareOfLessAndEq, if_pos hl, decide_eq_true hl]
    rfl
  · simp only [compare, compareOfLessAndEq, if_neg hl, decide_eq_false hl]
    split <;> rfl
/-- float64(n). -/
theorem Fl.ofInt (n : Int) (hn : n.natAbs < 2 ^ 53) : Fl (floatOfInt .f64 n) n := by
  have h := nearest_scaled (decide (n < 0)) n.natAbs 0 hn
  have e : floatOfInt .f64 n = flw (decide (n < 0)) n.natAbs := by
    rw [← h]
    simp [floatOfInt, FloatKind.nearest, FloatKind.encode, Ieee.Format.write, FloatKind.format]
  rw [e]
  refine Fl.mk' _ _ _ ?_
  by_cases hl : n < 0
  · rw [decide_eq_true hl]
    simp only [sgn, if_true]
    omega
  · rw [decide_eq_false hl]
    simp only [sgn, Bool.false_eq_true, if_false]
    omega
/-- int(x). -/
theorem Fl.toInt {x : Nat} {n : Int} (hx : Fl x n) (hn : n.natAbs < 2 ^ 53) : floatToIntVal .f64 x .i64 = some n := by
  obtain ⟨s, rfl, hs⟩ := hx
  have hr := read_flw s n.natAbs hn
  have h1 : (FloatKind.f64.decode (flw s n.natAbs)).toInt .zero = some n := by
    have e : FloatKind.f64.decode (flw s n.natAbs) = .number s (n.natAbs * 2 ^ shW n.natAbs) (-(shW n.natAbs : Int)) := hr
    have hc : Ieee.Toward.zero.cut s (n.natAbs * 2 ^ shW n.natAbs) (shW n.natAbs) = n.natAbs := by
      have h3 := cut_exact s n.natAbs (shW n.natAbs)
      unfold Ieee.Toward.cut at h3 ⊢
      by_cases h0 : n.natAbs = 0
      · rw [h0]
        simp
      have hd : min (shW n.natAbs) ((n.natAbs * 2 ^ shW n.natAbs).log2 + 2) = shW n.natAbs := by
        have : shW n.natAbs ≤ (n.natAbs * 2 ^ shW n.natAbs).log2 := by
          have h0 : n.natAbs * 2 ^ shW n.natAbs ≠ 0 := Nat.mul_ne_zero h0 (Nat.pos_iff_ne_zero.1 (Nat.two_pow_pos _))
          rw [Nat.le_log2 h0]
          exact Nat.le_mul_of_pos_left _ (by omega)
        omega
      simp only [hd, Nat.one_shiftLeft, Nat.mul_div_cancel n.natAbs (Nat.two_pow_pos (shW n.natAbs))]
      simp
    rw [e]
    unfold Ieee.Datum.toInt Ieee.Datum.integral
    simp only [Int.neg_neg, Int.toNat_natCast]
    have e0 : (-(shW n.natAbs : Int)).toNat = 0 := by omega
    rw [e0, Nat.shiftLeft_zero, hc]
    unfold Ieee.signed
    rw [Nat.shiftLeft_zero]
    exact congrArg some hs
  have h2 : IntKind.i64.min = -9223372036854775808 := by decide
  have h3 : IntKind.i64.max = 9223372036854775807 := by decide
  unfold floatToIntVal
  rw [h1]
  simp only
  rw [h2, h3, if_pos (by omega)]
theorem flw_zero : Fl 0 0 := by
  have h := Fl.mk false 0
  rwa [show flw false 0 = 0 by decide] at h
theorem flw_one : Fl 4607182418800017408 1 := by
  have h := Fl.mk false 1
  rwa [show flw false 1 = 4607182418800017408 by decide +kernel] at h
theorem flw_two : Fl 4611686018427387904 2 := by
  have h := Fl.mk false 2
  rwa [show flw false 2 = 4611686018427387904 by decide +kernel] at h
theorem flw_three : Fl 4613937818241073152 3 := by
  have h := Fl.mk false 3
  rwa [show flw false 3 = 4613937818241073152 by decide +kernel] at h
theorem flw_256 : Fl 4643211215818981376 256 := by
  have h := Fl.mk false 256
  rwa [show flw false 256 = 4643211215818981376 by decide +kernel] at h
theorem flw_prime : flw false 1048573 = 4697254385577623552 := by decide +kernel
theorem mod_calls (s : Bool) (v p : Nat) (hv : v < 2 ^ 53) (h0 : p ≠ 0) (hp : p < 2 ^ 53) (w : World) : Calls Try.prog 41 #[.float .f64 (flw s v), .float .f64 (flw false p)] w fun e w' => e = .returned (.float .f64 (flw s (v % p))) ∧ Drawn0 w w' := by
  by_cases hv0 : v = 0
  · exact mod_plus s v p (fun _ => hv0) hv h0 hp w
  · cases s
    · exact mod_plus false v p (fun h => by cases h) hv h0 hp w
    · exact mod_minus v p hv0 hv h0 hp w
end Go.Proofs.Ytlbfegnmkddlbaa.A
namespace Go.Proofs.Ytlbfegnmkddlbaa.A
open Go.RowKit Go.Proofs.YtlbfegnmkddlbaaW.PrintWords Go.Proofs.YtlbfegnmkddlbaaW.PrintLast Go.Proofs.YtlbfegnmkddlbaaW.PrintMore
set_option linter.unusedVariables false
set_option maxHeartbeats 1000000 in
set_option maxRecDepth 100000 in
theorem Mod_calls (s : Bool) (v p : Nat) (hv : v < 2 ^ 53) (h0 : p ≠ 0) (hp : p < 2 ^ 53) (w : World) : Calls Try.prog 37 #[.float .f64 (flw s v), .float .f64 (flw false p)] w fun e w' => e = .returned (.float .f64 (flw s (v % p))) ∧ Drawn0 w w' := by
  go_enter Try.func37, Try.ntmps37
  go_wp2_with (first | (go_at_call 41; refine (mod_calls s v p hv h0 hp _).mono ?_; rintro e w1 ⟨rfl, ⟨m1, rfl⟩⟩))
  go_ret
  exact ⟨by rfl, by repeat (first | exact Drawn0.refl _ | apply Drawn0.step)⟩
/-- What a call tells: a float that has a whole number. -/
def FRes (n : Int) (e : Ending) : Prop := ∃ x, e = .returned (.float .f64 x) ∧ Fl x n
/-- What a call tells: a complex number of two whole ones. -/
def CRes (a b : Int) (e : Ending) : Prop := ∃ x y, e = .returned (.complex .f64 x y) ∧ Fl x a ∧ Fl y b
theorem FRes.mk {n m : Int} {x : Nat} (h : Fl x n) (hm : n = m) : FRes m (.returned (.float .f64 x)) := ⟨x, rfl, hm ▸ h⟩
theorem CRes.mk {a b c d : Int} {x y : Nat} (h : Fl x a) (k : Fl y b) (hm : a = c) (hk : b = d) : CRes c d (.returned (.complex .f64 x y)) := ⟨x, y, rfl, hm ▸ h, hk ▸ k⟩
theorem sgn_mod (s : Bool) (v : Nat) : sgn s (v % 1048573) = (sgn s v).tmod 1048573 := by
  cases s
  · simp only [sgn, Bool.false_eq_true, if_false]
    rfl
  · simp only [sgn, if_true, Int.neg_tmod]
    rfl
set_option maxHeartbeats 1000000 in
set_option maxRecDepth 100000 in
theorem left_calls (x : Nat) (n : Int) (hx : Fl x n) (hn : n.natAbs < 2 ^ 53) (w : World) : Calls Try.prog 34 #[.float .f64 x] w fun e w' => FRes (n % 1048573) e ∧ Drawn0 w w' := by
  obtain ⟨s, rfl, hs⟩ := hx
  have hr : Fl (flw s (n.natAbs % 1048573)) (n.tmod 1048573) := Fl.mk' _ _ _ (by rw [sgn_mod, hs])
  have ht : (n.tmod 1048573).natAbs < 2 ^ 53 := by
    have := Int.natAbs_tmod n 1048573
    have h2 := Nat.mod_lt n.natAbs (show 0 < 1048573 by decide)
    rw [this]
    show n.natAbs % 1048573 < _
    omega
  have hp : Fl 4697254385577623552 1048573 := by
    have h := Fl.mk false 1048573
    rwa [flw_prime] at h
  have hm := fun W => Mod_calls s n.natAbs 1048573 hn (by decide) (by decide) W
  rw [flw_prime] at hm
  have hc := hr.below0 ht
  have hte : (n.tmod 1048573 = n % 1048573) ∨ (n.tmod 1048573 = n % 1048573 - 1048573 ∧ n % 1048573 ≠ 0) := by
    rcases Int.lt_or_le n 0 with h | h
    · have h1 := Int.tmod_eq_emod (a := n) (b := 1048573)
      split at h1
      · omega
      · have h2 : (Int.natAbs 1048573 : Int) = 1048573 := rfl
        have h3 : n % 1048573 ≠ 0 := fun h => by
          have : ¬ (0 ≤ n ∨ (1048573 : Int) ∣ n) := by assumption
          omega
        exact .inr ⟨by omega, h3⟩
    · exact .inl (Int.tmod_eq_emod_of_nonneg h)
  by_cases hneg : n.tmod 1048573 < 0
  · obtain ⟨z, hz, hadd⟩ := hr.add_run hp ht (by decide) (by omega)
    have hrun := Fl.run2 58 hadd
    rw [decide_eq_true hneg] at hc
    have HN : Aside0 (n.tmod 1048573 + 1048573 = n % 1048573) := ⟨by omega⟩
    clear hte hneg ht hadd hs hn
    go_enter Try.func34, Try.ntmps34
    go_wp2_with (first | (go_at_call 37; refine (hm _).mono ?_; rintro e w1 ⟨rfl, ⟨m1, rfl⟩⟩))
    go_ret
    exact ⟨FRes.mk hz HN.out, by repeat (first | exact Drawn0.refl _ | apply Drawn0.step)⟩
  · rw [decide_eq_false hneg] at hc
    have HN : Aside0 (n.tmod 1048573 = n % 1048573) := ⟨by omega⟩
    clear hte hneg ht hs hn
    go_enter Try.func34, Try.ntmps34
    go_wp2_with (first | (go_at_call 37; refine (hm _).mono ?_; rintro e w1 ⟨rfl, ⟨m1, rfl⟩⟩))
    go_ret
    exact ⟨FRes.mk hr HN.out, by repeat (first | exact Drawn0.refl _ | apply Drawn0.step)⟩
set_option maxHeartbeats 1000000 in
set_option maxRecDepth 100000 in
theorem small_calls (x y : Nat) (a b : Int) (hx : Fl x a) (hy : Fl y b) (ha : a.natAbs < 2 ^ 53) (hb : b.natAbs < 2 ^ 53) (w : World) : Calls Try.prog 27 #[.complex .f64 x y] w fun e w' => CRes (a % 1048573) (b % 1048573) e ∧ Drawn0 w w' := by
  have HX := Aside0.mk hx
  have HY := Aside0.mk hy
  have HA := Aside0.mk ha
  have HB := Aside0.mk hb
  clear hx hy ha hb
  go_enter Try.func27, Try.ntmps27
  go_wp2_with (first | (go_at_call 34; (with_reducible refine (left_calls x a HX.out HA.out _).mono ?_); rintro e w1 ⟨⟨z1, rfl, hz1⟩, ⟨m1, rfl⟩⟩; have HZ1 := Aside0.mk hz1; clear hz1) | (go_at_call 34; (with_reducible refine (left_calls y b HY.out HB.out _).mono ?_); rintro e w1 ⟨⟨z2, rfl, hz2⟩, ⟨m2, rfl⟩⟩; have HZ2 := Aside0.mk hz2; clear hz2))
  go_ret
  exact ⟨CRes.mk HZ1.out HZ2.out rfl rfl, by repeat (first | exact Drawn0.refl _ | apply Drawn0.step)⟩
end Go.Proofs.Ytlbfegnmkddlbaa.A
namespace Go.Proofs.Ytlbfegnmkddlbaa.A
open Go.RowKit Go.Proofs.YtlbfegnmkddlbaaW.PrintWords Go.Proofs.YtlbfegnmkddlbaaW.PrintLast Go.Proofs.YtlbfegnmkddlbaaW.PrintMore
set_option linter.unusedVariables false
theorem prod_lt {a b : Int} (ha : a.natAbs < 2 ^ 21) (hb : b.natAbs < 2 ^ 21) : (a * b).natAbs < 2 ^ 42 := by
  rw [Int.natAbs_mul]
  have := Nat.mul_lt_mul'' ha hb
  rw [← Nat.pow_add] at this
  exact this
set_option maxHeartbeats 1000000 in
set_option maxRecDepth 100000 in
theorem times_calls (x y x' y' : Nat) (a b c d : Int) (hx : Fl x a) (hy : Fl y b) (hx' : Fl x' c) (hy' : Fl y' d) (ha : a.natAbs < 2 ^ 21) (hb : b.natAbs < 2 ^ 21) (hc : c.natAbs < 2 ^ 21) (hd : d.natAbs < 2 ^ 21) (w : World) :
    Calls Try.prog 26 #[.complex .f64 x y, .complex .f64 x' y'] w fun e w' => CRes ((a * c - b * d) % 1048573) ((a * d + b * c) % 1048573) e ∧ Drawn0 w w' := by
  have p1 := prod_lt ha hc
  have p2 := prod_lt hb hd
  have p3 := prod_lt ha hd
  have p4 := prod_lt hb hc
  obtain ⟨z1, h1, r1⟩ := hx.mul_run hx' (by omega) (by omega) (by omega)
  obtain ⟨z2, h2, r2⟩ := hy.mul_run hy' (by omega) (by omega) (by omega)
  obtain ⟨z3, h3, r3⟩ := hx.mul_run hy' (by omega) (by omega) (by omega)
  obtain ⟨z4, h4, r4⟩ := hy.mul_run hx' (by omega) (by omega) (by omega)
  obtain ⟨z5, h5, r5⟩ := h1.sub_run h2 (by omega) (by omega) (by omega)
  obtain ⟨z6, h6, r6⟩ := h3.add_run h4 (by omega) (by omega) (by omega)
  have hs := fun W => small_calls z5 z6 _ _ h5 h6 (by omega) (by omega) W
  have HS := Aside0.mk hs
  have m1 := Fl.run2 58 r1
  have m2 := Fl.run2 58 r2
  have m3 := Fl.run2 58 r3
  have m4 := Fl.run2 58 r4
  have m5 := Fl.run2 58 r5
  have m6 := Fl.run2 58 r6
  clear p1 p2 p3 p4 r1 r2 r3 r4 r5 r6 ha hb hc hd hs h1 h2 h3 h4 h5 h6 hx hy hx' hy'
  go_enter Try.func26, Try.ntmps26
  go_wp2_with (first | (go_at_call 27; (with_reducible refine (HS.out _).mono ?_); rintro e w1 ⟨⟨z7, z8, rfl, hz1, hz2⟩, ⟨n1, rfl⟩⟩; have HZ1 := Aside0.mk hz1; have HZ2 := Aside0.mk hz2; clear hz1 hz2))
  go_ret
  exact ⟨CRes.mk HZ1.out HZ2.out rfl rfl, by repeat (first | exact Drawn0.refl _ | apply Drawn0.step)⟩
set_option maxHeartbeats 1000000 in
set_option maxRecDepth 100000 in
theorem told_calls (x y : Nat) (a b : Int) (hx : Fl x a) (hy : Fl y b) (ha : a.natAbs < 2 ^ 53) (hb : b.natAbs < 2 ^ 53) (w : World) :
    Calls Try.prog 28 #[.complex .f64 x y] w fun e w' => e = .returned (.agg #[.int .i64 a, .int .i64 b]) ∧ Below w.heap.size w w' := by
  have r1 : ∀ W : World, (convert 58 3 (.float .f64 x)).run Try.prog W = .ok (.int .i64 a) W := fun W => run_convert_float_int W 58 3 .f64 .i64 x a (by rw [Try.underlying58]; rfl) Try.underlying3 (hx.toInt ha)
  have r2 : ∀ W : World, (convert 58 3 (.float .f64 y)).run Try.prog W = .ok (.int .i64 b) W := fun W => run_convert_float_int W 58 3 .f64 .i64 y b (by rw [Try.underlying58]; rfl) Try.underlying3 (hy.toInt hb)
  clear hx hy ha hb
  go_enter Try.func28, Try.ntmps28
  go_wp2
  exact bodyPost_ret (v := .agg #[.int .i64 a, .int .i64 b]) (by simp [results, Try.results28, go_sem]) rfl ⟨rfl, by repeat (first | exact Below.refl _ _ | apply below_alloc | apply pw_below_drewN | apply below_drew | refine below_set ?_ (Nat.le_refl _))⟩
end Go.Proofs.Ytlbfegnmkddlbaa.A
namespace Go.Proofs.Ytlbfegnmkddlbaa.A
open Go.RowKit Go.Proofs.YtlbfegnmkddlbaaW.PrintWords Go.Proofs.YtlbfegnmkddlbaaW.PrintLast Go.Proofs.YtlbfegnmkddlbaaW.PrintMore
set_option linter.unusedVariables false
/-- A byte's step. -/
def tagStep (t : Int × Int) (c : Int) : Int × Int :=
  (((t.1 * 3 - t.2 * 2) % 1048573 + (c + 1)) % 1048573, ((t.1 * 2 + t.2 * 3) % 1048573 + (256 - c)) % 1048573)
def tagOf (l : List Int) : Int × Int := l.foldl tagStep (0, 0)
theorem tagStep_range (t : Int × Int) (c : Int) : (0 ≤ (tagStep t c).1 ∧ (tagStep t c).1 < 1048573) ∧ (0 ≤ (tagStep t c).2 ∧ (tagStep t c).2 < 1048573) := by
  unfold tagStep
  exact ⟨⟨by omega, by omega⟩, ⟨by omega, by omega⟩⟩
theorem tagOf_range (l : List Int) : (0 ≤ (tagOf l).1 ∧ (tagOf l).1 < 1048573) ∧ (0 ≤ (tagOf l).2 ∧ (tagOf l).2 < 1048573) := by
  unfold tagOf
  rcases List.eq_nil_or_concat l with rfl | ⟨l', c, rfl⟩
  · exact ⟨⟨by decide, by decide⟩, ⟨by decide, by decide⟩⟩
  · rw [List.concat_eq_append, List.foldl_append]
    exact tagStep_range _ _
theorem tagOf_snoc (l : List Int) (c : Int) : tagOf (l ++ [c]) = tagStep (tagOf l) c := by unfold tagOf; rw [List.foldl_append]; rfl
theorem take_rd (l : List Int) (k : Nat) (h : k < l.length) : l.take (k + 1) = l.take k ++ [rd l (k : Int)] := by
  rw [List.take_succ_eq_append_getElem h]
  simp [rd, List.getD_eq_getElem?_getD, List.getElem?_eq_getElem h]
def CVal (v : Value) (a b : Int) : Prop := ∃ x y, v = .complex .f64 x y ∧ Fl x a ∧ Fl y b
def tag_Of.f (l0 : List Int) : Option (Int × Int) := if (∀ x ∈ l0, 0 ≤ x ∧ x ≤ 255) ∧ l0.length ≤ 9223372036854775807 then some (tagOf l0) else none
set_option maxHeartbeats 1000000 in
set_option maxRecDepth 100000 in
theorem tag_Of.calls (A0 : Option Addr) (c0 : Nat) (l0 : List Int) (r1 : Int) (r2 : Int) (w : World) (hr0 : Kd.C (Kd.int .u8) w A0 l0.length l0) (hc0 : l0.length ≤ c0) (h : tag_Of.f l0 = some (r1, r2)) :
    Calls Try.prog 20 #[.slice A0 l0.length c0] w fun e w' => e = .returned (.agg #[.int .i64 r1, .int .i64 r2]) ∧ Below w.heap.size w w' := by
  unfold tag_Of.f at h
  by_cases hc : (∀ x ∈ l0, 0 ≤ x ∧ x ≤ 255) ∧ l0.length ≤ 9223372036854775807
  case neg => rw [if_neg hc] at h; cases h
  rw [if_pos hc] at h
  have hrr := Option.some.inj h
  obtain ⟨rfl, rfl⟩ : (tagOf l0).1 = r1 ∧ (tagOf l0).2 = r2 := by rw [hrr]; exact ⟨rfl, rfl⟩
  clear h hrr
  have HB := Aside0.mk hc.1
  have hl := hc.2
  have HR := Aside0.mk hr0
  clear hc hr0
  go_enter Try.func20, Try.ntmps20
  go_wp2_with (first | ((with_reducible refine gate_dst (N := 2) rfl ?_); refine box_event ?hg (N := 2) ?hd (cs := #[.int .i64 0, .int .i64 0]) (t := 39) ?hr ?_; (case hd => rfl); (case hg => rfl); (case hr => first | (go_simp; done) | (go_simp; rfl)); intro g1 hg w2 hbox hb; have HW1 := Aside0.mk hb; have HX1 := Aside0.mk hbox; have HG1 := Aside0.mk hg; clear hb hbox hg))
  go_loopw [3, 8] (fun vt vi wr => ∃ k : Nat, k ≤ l0.length ∧ vi = .int .i64 k ∧ Aside0 (CVal vt (tagOf (l0.take k)).1 (tagOf (l0.take k)).2) ∧ Aside0 (wr.heap[g1]? = some (.cells #[.int .i64 0, .int .i64 0] 39 (0, 0))) ∧ Aside0 (Below w.heap.size w wr)) (fun _ vi _ => l0.length - (intOf vi).toNat)
  case atStart => exact ⟨0, Nat.zero_le _, rfl, ⟨⟨_, _, rfl, flw_zero, flw_zero⟩⟩, HX1, HW1⟩
  case round =>
    obtain ⟨k, hk, rfl, HT, HX, HW⟩ := hrel
    obtain ⟨x, y, rfl, hx, hy⟩ := HT.out
    have hrg := tagOf_range (l0.take k)
    by_cases hlt : k < l0.length
    · obtain ⟨ad, rfl, hcell0⟩ := Kd.at_int HR.out (k : Int) (by omega) (by omega)
      have hcell : wr.cell? (ad.add (k : Int).toNat) = some (.int .u8 (rd l0 (k : Int))) := pw_cell_below HW.out hcell0
      rw [Int.toNat_natCast] at hcell
      have hb : 0 ≤ rd l0 (k : Int) ∧ rd l0 (k : Int) ≤ 255 := HB.out _ (by
        unfold rd
        rw [Int.toNat_natCast, List.getD_eq_getElem?_getD, List.getElem?_eq_getElem hlt]
        exact List.getElem_mem hlt)
      have HS := Aside0.mk (show tagOf (l0.take (k + 1)) = tagStep (tagOf (l0.take k)) (rd l0 (k : Int)) by rw [take_rd l0 k hlt, tagOf_snoc])
      obtain ⟨c, hc⟩ : ∃ c, rd l0 (k : Int) = c := ⟨_, rfl⟩
      rw [hc] at hb hcell HS
      generalize tagOf (l0.take k) = t at *
      obtain ⟨z1, hz1, e1⟩ := (Fl.ofInt c (by omega)).add_run flw_one (by omega) (by decide) (by omega)
      obtain ⟨z2, hz2, e2⟩ := flw_256.sub_run (Fl.ofInt c (by omega)) (by decide) (by omega) (by omega)
      have m1 := Fl.run2 58 e1
      have m2 := Fl.run2 58 e2
      have HT2 := Aside0.mk (fun W => times_calls x y _ _ _ _ _ _ hx hy flw_three flw_two (by omega) (by omega) (by decide) (by decide) W)
      have HZ := Aside0.mk (And.intro hz1 hz2)
      have HC := Aside0.mk hb
      clear hcell0 hc hz1 hz2 e1 e2 hx hy hrg HT hb
      go_wp2_with (first | (go_at_call 26; (with_reducible refine (HT2.out _).mono ?_); rintro e w1 ⟨⟨x1, y1, rfl, hx1, hy1⟩, ⟨n1, rfl⟩⟩; obtain ⟨s1, hs1, g1⟩ := hx1.add_run HZ.out.1 (by omega) (by have := HC.out; omega) (by have := HC.out; omega); obtain ⟨s2, hs2, g2⟩ := hy1.add_run HZ.out.2 (by omega) (by have := HC.out; omega) (by have := HC.out; omega); have m3 := Fl.csum g1 g2 55; have HN := Aside0.mk (And.intro hs1 hs2); clear hx1 hy1 g1 g2 hs1 hs2) | (go_at_call 27; (with_reducible refine (small_calls s1 s2 _ _ HN.out.1 HN.out.2 (by have := HC.out; omega) (by have := HC.out; omega) _).mono ?_); rintro e w1 ⟨⟨x2, y2, rfl, hx2, hy2⟩, ⟨n2, rfl⟩⟩; have HN2 := Aside0.mk (And.intro hx2 hy2); clear hx2 hy2))
      go_roundw
      case rel => exact ⟨k + 1, by omega, by go_num, ⟨⟨_, _, rfl, by rw [HS.out]; exact HN2.out.1, by rw [HS.out]; exact HN2.out.2⟩⟩, ⟨by (with_reducible repeat (first | refine blk_drewN ?_ _ | refine blk_drew ?_ | refine blk_alloc ?_ _)); exact HX.out⟩, ⟨by repeat (first | (with_reducible first | exact HW.out | apply below_alloc | apply pw_below_drewN | apply below_drew1) | exact HW.out)⟩⟩
      case measure => simp [intOf]; omega
    · have hk2 : k = l0.length := by omega
      subst hk2
      have HT3 := Aside0.mk (fun W => told_calls x y _ _ hx hy (by omega) (by omega) W)
      rw [List.take_length] at HT3
      clear HT hx hy hrg
      go_wp2_with (first | (go_at_call 28; (with_reducible refine (HT3.out _).mono ?_); rintro e w5 ⟨rfl, hb⟩; have HX5 := Aside0.mk (blk_below (g := g1) (o := .cells #[.int .i64 0, .int .i64 0] 39 (0, 0)) HX.out hb); have HB1 := Aside0.mk (below_step HW.out hb); clear hb; have hcz0 : w5.cell? ⟨g1, 0, none⟩ = some (.int .i64 0) := (blk_cell HX5.out 0).trans rfl; have hcz1 : w5.cell? ⟨g1, 1, none⟩ = some (.int .i64 0) := (blk_cell HX5.out 1).trans rfl; have hfz0 := blk_frozen HX5.out 0; have hfz1 := blk_frozen HX5.out 1))
      refine bodyPost_ret (results_cell_row rfl _ _ g1 39 #[.int .i64 (tagOf l0).1, .int .i64 (tagOf l0).2] (0, 0) _ rfl (by (with_reducible repeat (first | refine blk_drewN ?_ _ | refine blk_drew ?_ | refine blk_alloc ?_ _)); refine blk_put (cs := #[.int .i64 (tagOf l0).1, .int .i64 0]) ?_ 1 _ rfl; (with_reducible repeat (first | refine blk_drewN ?_ _ | refine blk_drew ?_ | refine blk_alloc ?_ _)); refine blk_put (cs := #[.int .i64 0, .int .i64 0]) ?_ 0 _ rfl; (with_reducible repeat (first | refine blk_drewN ?_ _ | refine blk_drew ?_ | refine blk_alloc ?_ _)); exact HX5.out) Try.underlying39 rfl (by kernel_rfl)) rfl ?_
      exact ⟨by first | rfl | (simp; done), by repeat (first | (with_reducible first | exact HB1.out | apply below_alloc | apply pw_below_drewN | apply below_drew1 | refine below_set ?_ (by rw [HG1.out]; exact Nat.le_refl _)) | exact HB1.out)⟩
end Go.Proofs.Ytlbfegnmkddlbaa.A
