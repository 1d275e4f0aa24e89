/- Floats that have whole numbers: what adding, multiplying and comparing them tells. -/
import Derived.Laws.FloatArith
import Derived.Laws.FloatBits
namespace Go.Proofs.Ytlbfegnmkddlbaa.A
open Ieee
set_option linter.unusedVariables false
set_option linter.unusedSimpArgs false
/-- The rung of a whole number. -/
def rungW (v : Nat) : Nat := if v = 0 then 0 else (v.log2 + 1022) * 2 ^ 52 + v * 2 ^ (52 - v.log2)
/-- The word of a whole number with a sign. -/
def flw (s : Bool) (v : Nat) : Nat := double.word s (rungW v)
theorem dbl : double.fractionBits = 52 ∧ double.leastPlace = -1074 ∧ double.binade = 2 ^ 52 ∧ double.infRung = 2047 * 2 ^ 52 ∧ double.signWeight = 2 ^ 63 := ⟨rfl, rfl, rfl, rfl, rfl⟩
theorem log_lt {v : Nat} (h0 : v ≠ 0) (h : v < 2 ^ 53) : v.log2 ≤ 52 := by
  have := (Nat.log2_lt h0).2 h
  omega
theorem mant_range {v : Nat} (h0 : v ≠ 0) (h : v < 2 ^ 53) : 2 ^ 52 ≤ v * 2 ^ (52 - v.log2) ∧ v * 2 ^ (52 - v.log2) < 2 ^ 53 := by
  have hl := log_lt h0 h
  have h1 : 2 ^ v.log2 ≤ v := Nat.log2_self_le h0
  have h2 : v < 2 ^ (v.log2 + 1) := Nat.lt_log2_self
  have e1 : (2 : Nat) ^ 52 = 2 ^ v.log2 * 2 ^ (52 - v.log2) := by rw [← Nat.pow_add]; congr 1; omega
  have e2 : (2 : Nat) ^ 53 = 2 ^ (v.log2 + 1) * 2 ^ (52 - v.log2) := by rw [← Nat.pow_add]; congr 1; omega
  have hp : 0 < 2 ^ (52 - v.log2) := Nat.two_pow_pos _
  constructor
  · rw [e1]
    exact Nat.mul_le_mul_right _ h1
  · rw [e2]
    exact Nat.mul_lt_mul_of_pos_right h2 hp
theorem cut_exact (neg : Bool) (n drop : Nat) : Toward.even.cut neg (n * 2 ^ drop) drop = n := by
  unfold Toward.cut
  by_cases hn : n = 0
  · subst hn
    simp
  have hd : min drop ((n * 2 ^ drop).log2 + 2) = drop := by
    have : drop ≤ (n * 2 ^ drop).log2 := by
      have h0 : n * 2 ^ drop ≠ 0 := Nat.mul_ne_zero hn (Nat.pos_iff_ne_zero.1 (Nat.two_pow_pos _))
      rw [Nat.le_log2 h0]
      exact Nat.le_mul_of_pos_left _ (Nat.pos_of_ne_zero hn)
    omega
  simp only [hd, Nat.one_shiftLeft, Nat.mul_mod_left, Nat.mul_div_cancel n (Nat.two_pow_pos drop)]
  have hp : 0 < 2 ^ drop := Nat.two_pow_pos _
  have h1 : ¬ (2 ^ drop < 2 * 0) := by omega
  have h2 : ¬ (2 ^ drop = 2 * 0) := by omega
  simp [h1, h2]
/-- A whole number, however far it was shifted, has its word. -/
theorem nearest_scaled (neg : Bool) (m t : Nat) (hm : m < 2 ^ 53) : double.nearest neg (m * 2 ^ t) (-(t : Int)) = flw neg m := by
  obtain ⟨d1, d2, d3, d4, d5⟩ := dbl
  unfold Format.nearest flw rungW
  by_cases h0 : m = 0
  · subst h0
    simp
  have hl := log_lt h0 hm
  have hr := mant_range h0 hm
  have hne : m * 2 ^ t ≠ 0 := Nat.mul_ne_zero h0 (Nat.pos_iff_ne_zero.1 (Nat.two_pow_pos _))
  have hlog : (m * 2 ^ t).log2 = m.log2 + t := by
    have h1 : 2 ^ m.log2 ≤ m := Nat.log2_self_le h0
    have h2 : m < 2 ^ (m.log2 + 1) := Nat.lt_log2_self
    refine (Nat.log2_eq_iff hne).2 ⟨?_, ?_⟩
    · rw [Nat.pow_add]
      exact Nat.mul_le_mul_right _ h1
    · rw [show m.log2 + t + 1 = (m.log2 + 1) + t by omega, Nat.pow_add]
      exact Nat.mul_lt_mul_of_pos_right h2 (Nat.two_pow_pos _)
  rw [if_neg hne, if_neg h0]
  simp only [d1, d2, d3, d4, hlog]
  have hlast : max (-(t : Int) + ((m.log2 + t : Nat) : Int) - ((52 : Nat) : Int)) (-1074) = (m.log2 : Int) - 52 := by omega
  rw [hlast]
  have hkept : Toward.even.cut neg ((m * 2 ^ t) <<< (-(t : Int) - ((m.log2 : Int) - 52)).toNat) (((m.log2 : Int) - 52) - (-(t : Int))).toNat = m * 2 ^ (52 - m.log2) := by
    by_cases hc : t + m.log2 ≤ 52
    · have a1 : (-(t : Int) - ((m.log2 : Int) - 52)).toNat = 52 - m.log2 - t := by omega
      have a2 : (((m.log2 : Int) - 52) - (-(t : Int))).toNat = 0 := by omega
      rw [a1, a2, Nat.shiftLeft_eq, Nat.mul_assoc, ← Nat.pow_add, show t + (52 - m.log2 - t) = 52 - m.log2 by omega]
      have := cut_exact neg (m * 2 ^ (52 - m.log2)) 0
      rwa [Nat.pow_zero, Nat.mul_one] at this
    · have a1 : (-(t : Int) - ((m.log2 : Int) - 52)).toNat = 0 := by omega
      have a2 : (((m.log2 : Int) - 52) - (-(t : Int))).toNat = t - (52 - m.log2) := by omega
      rw [a1, a2, Nat.shiftLeft_eq, Nat.pow_zero, Nat.mul_one]
      have e : m * 2 ^ t = m * 2 ^ (52 - m.log2) * 2 ^ (t - (52 - m.log2)) := by
        rw [Nat.mul_assoc, ← Nat.pow_add, show 52 - m.log2 + (t - (52 - m.log2)) = t by omega]
      rw [e, cut_exact]
  rw [hkept]
  have hcount : ((m.log2 : Int) - 52 - (-1074)).toNat = m.log2 + 1022 := by omega
  rw [hcount]
  have hle : (m.log2 + 1022) * 2 ^ 52 + m * 2 ^ (52 - m.log2) ≤ 2047 * 2 ^ 52 := by
    have h2 := hr.2
    generalize m * 2 ^ (52 - m.log2) = M at h2
    omega
  have hmin := Nat.min_eq_left hle
  rw [hmin]
end Go.Proofs.Ytlbfegnmkddlbaa.A
namespace Go.Proofs.Ytlbfegnmkddlbaa.A
open Ieee
set_option linter.unusedVariables false
set_option linter.unusedSimpArgs false
def shW (v : Nat) : Nat := if v = 0 then 1074 else 52 - v.log2
/-- A magnitude with its sign. -/
def sgn (s : Bool) (v : Nat) : Int := if s then -(v : Int) else (v : Int)
theorem rungW_lt (v : Nat) (h : v < 2 ^ 53) : rungW v < 2047 * 2 ^ 52 := by
  unfold rungW
  by_cases h0 : v = 0
  · rw [if_pos h0]
    decide
  · rw [if_neg h0]
    have hl := log_lt h0 h
    have hr := (mant_range h0 h).2
    generalize v * 2 ^ (52 - v.log2) = M at hr
    omega
theorem read_flw (s : Bool) (v : Nat) (h : v < 2 ^ 53) : double.read (flw s v) = .number s (v * 2 ^ shW v) (-(shW v : Int)) := by
  obtain ⟨d1, d2, d3, d4, d5⟩ := dbl
  have hlt := rungW_lt v h
  have hneg : (flw s v / 2 ^ 63 % 2 == 1) = s := by
    unfold flw Format.word
    rw [d5]
    cases s
    · rw [if_neg (by decide), Nat.div_eq_of_lt (by omega)]
      rfl
    · rw [if_pos rfl, show (2 ^ 63 + rungW v) / 2 ^ 63 = 1 by omega]
      rfl
  have hrung : flw s v % 2 ^ 63 = rungW v := by
    unfold flw Format.word
    rw [d5]
    cases s
    · rw [if_neg (by decide), Nat.mod_eq_of_lt (by omega)]
    · rw [if_pos rfl]
      omega
  unfold Format.read
  simp only [d5, d3, d4, d2, hneg, hrung]
  by_cases h0 : v = 0
  · subst h0
    have e : rungW 0 = 0 := rfl
    rw [e, if_pos (by decide)]
    have e2 : shW 0 = 1074 := rfl
    rw [Nat.zero_mul, e2]
    rfl
  · have hl := log_lt h0 h
    have hr := mant_range h0 h
    have e1 : rungW v = (v.log2 + 1022) * 2 ^ 52 + v * 2 ^ (52 - v.log2) := by unfold rungW; rw [if_neg h0]
    have e2 : shW v = 52 - v.log2 := by unfold shW; rw [if_neg h0]
    rw [e2]
    generalize hM : v * 2 ^ (52 - v.log2) = M at *
    have e3 : rungW v % 2 ^ 52 = M - 2 ^ 52 := by omega
    have e4 : rungW v / 2 ^ 52 = v.log2 + 1023 := by omega
    rw [if_neg (by omega), if_pos hlt, e3, e4]
    have e5 : 2 ^ 52 + (M - 2 ^ 52) = M := by omega
    have e6 : (-1074 : Int) + ((v.log2 + 1023 - 1 : Nat) : Int) = -((52 - v.log2 : Nat) : Int) := by omega
    rw [e5, e6]
theorem signed_is (s : Bool) (v a B : Nat) (h : a ≤ B) : signed s (v * 2 ^ a) (-(a : Int) - -(B : Int)).toNat = sgn s v * 2 ^ B := by
  have e : (-(a : Int) - -(B : Int)).toNat = B - a := by omega
  unfold signed sgn
  rw [e, Nat.shiftLeft_eq, Nat.mul_assoc, ← Nat.pow_add, show a + (B - a) = B by omega]
  cases s
  · simp
  · simp [Int.neg_mul]
theorem sum_flw (s t : Bool) (v u : Nat) (h : (sgn s v + sgn t u).natAbs < 2 ^ 53) (B a b : Nat) (ha : a ≤ B) (hb : b ≤ B) (hB : B = a ∨ B = b) :
    ((Datum.number s (v * 2 ^ a) (-(a : Int))).sum (Datum.number t (u * 2 ^ b) (-(b : Int)))).map double.write = some (flw (if sgn s v + sgn t u = 0 then s && t else decide (sgn s v + sgn t u < 0)) (sgn s v + sgn t u).natAbs) := by
  have hmin : min (-(a : Int)) (-(b : Int)) = -(B : Int) := by omega
  have hp : (0 : Int) < 2 ^ B := Int.pow_pos (by decide)
  unfold Datum.sum
  simp only [hmin, signed_is s v a B ha, signed_is t u b B hb, ← Int.add_mul]
  generalize hT : sgn s v + sgn t u = T at *
  have hz : (T * 2 ^ B = 0) ↔ T = 0 := by
    constructor
    · intro h0
      rcases Int.mul_eq_zero.1 h0 with h1 | h1
      · exact h1
      · omega
    · rintro rfl
      exact Int.zero_mul _
  have hn : (T * 2 ^ B < 0) ↔ T < 0 := by
    constructor
    · intro h0
      apply Decidable.byContradiction
      intro h1
      have := Int.mul_nonneg (show (0 : Int) ≤ T by omega) (Int.le_of_lt hp)
      omega
    · intro h0
      exact Int.mul_neg_of_neg_of_pos h0 hp
  have ha' : (T * 2 ^ B).natAbs = T.natAbs * 2 ^ B := by
    rw [Int.natAbs_mul, Int.natAbs_pow]
    rfl
  simp only [hz, hn, ha', Option.map_some, Format.write, nearest_scaled _ _ B h]
theorem add_flw (s t : Bool) (v u : Nat) (hv : v < 2 ^ 53) (hu : u < 2 ^ 53) (h : (sgn s v + sgn t u).natAbs < 2 ^ 53) :
    double.add (flw s v) (flw t u) = some (flw (if sgn s v + sgn t u = 0 then s && t else decide (sgn s v + sgn t u < 0)) (sgn s v + sgn t u).natAbs) := by
  unfold Format.add
  rw [read_flw s v hv, read_flw t u hu]
  rcases Nat.le_total (shW v) (shW u) with h1 | h1
  · exact sum_flw s t v u h (shW u) _ _ h1 (Nat.le_refl _) (.inr rfl)
  · exact sum_flw s t v u h (shW v) _ _ (Nat.le_refl _) h1 (.inl rfl)
theorem sub_flw (s t : Bool) (v u : Nat) (hv : v < 2 ^ 53) (hu : u < 2 ^ 53) (h : (sgn s v + sgn (!t) u).natAbs < 2 ^ 53) :
    double.sub (flw s v) (flw t u) = some (flw (if sgn s v + sgn (!t) u = 0 then s && !t else decide (sgn s v + sgn (!t) u < 0)) (sgn s v + sgn (!t) u).natAbs) := by
  unfold Format.sub
  rw [read_flw s v hv, read_flw t u hu]
  unfold Datum.opposite
  rcases Nat.le_total (shW v) (shW u) with h1 | h1
  · exact sum_flw s (!t) v u h (shW u) _ _ h1 (Nat.le_refl _) (.inr rfl)
  · exact sum_flw s (!t) v u h (shW v) _ _ (Nat.le_refl _) h1 (.inl rfl)
theorem mul_flw (s t : Bool) (v u : Nat) (hv : v < 2 ^ 53) (hu : u < 2 ^ 53) (h : v * u < 2 ^ 53) : double.mul (flw s v) (flw t u) = some (flw (s ^^ t) (v * u)) := by
  unfold Format.mul
  rw [read_flw s v hv, read_flw t u hu]
  have e1 : v * 2 ^ shW v * (u * 2 ^ shW u) = v * u * 2 ^ (shW v + shW u) := by
    rw [Nat.pow_add]
    simp only [Nat.mul_assoc, Nat.mul_comm, Nat.mul_left_comm]
  have e2 : -(shW v : Int) + -(shW u : Int) = -((shW v + shW u : Nat) : Int) := by omega
  unfold Datum.product
  simp only [e1, e2, Option.map_some, Format.write, nearest_scaled _ _ _ h]
theorem order_flw (s t : Bool) (v u : Nat) (hv : v < 2 ^ 53) (hu : u < 2 ^ 53) : double.order (flw s v) (flw t u) = some (compare (sgn s v) (sgn t u)) := by
  unfold Format.order
  rw [read_flw s v hv, read_flw t u hu]
  unfold Datum.order
  have key : ∀ (B : Nat), shW v ≤ B → shW u ≤ B → min (-(shW v : Int)) (-(shW u : Int)) = -(B : Int) → compare (signed s (v * 2 ^ shW v) (-(shW v : Int) - min (-(shW v : Int)) (-(shW u : Int))).toNat) (signed t (u * 2 ^ shW u) (-(shW u : Int) - min (-(shW v : Int)) (-(shW u : Int))).toNat) = compare (sgn s v) (sgn t u) := fun B h1 h2 h3 => by
    rw [h3, signed_is s v _ B h1, signed_is t u _ B h2]
    have hp : (0 : Int) < 2 ^ B := Int.pow_pos (by decide)
    generalize sgn s v = x
    generalize sgn t u = y
    simp only [compare, compareOfLessAndEq]
    have a1 : (x * 2 ^ B < y * 2 ^ B) ↔ x < y := Int.mul_lt_mul_right hp
    have a2 : (x * 2 ^ B = y * 2 ^ B) ↔ x = y := ⟨fun h => Int.eq_of_mul_eq_mul_right (by omega) h, fun h => by rw [h]⟩
    simp only [a1, a2]
  rcases Nat.le_total (shW v) (shW u) with h1 | h1
  · exact congrArg some (key (shW u) h1 (Nat.le_refl _) (by omega))
  · exact congrArg some (key (shW v) (Nat.le_refl _) h1 (by omega))
end Go.Proofs.Ytlbfegnmkddlbaa.A
