/- How many bits a word has: the program's way and the plain one. -/
import Derived.Test.YtdjpohmgljhhcaaX2
namespace Go.Proofs.Ytdjpohmgljhhcaa.A
open Go.RowKit
set_option linter.unusedVariables false
set_option maxRecDepth 100000
theorem land_byte (a b m M : Nat) (ha : a < 256) (hm : m < 256) : (a + 256 * b) &&& (m + 256 * M) = (a &&& m) + 256 * (b &&& M) := by
  have h1 : a + 256 * b = 2 ^ 8 * b + a := by omega
  have h2 : m + 256 * M = 2 ^ 8 * M + m := by omega
  rw [h1, h2]
  have hl : (a &&& m) < 2 ^ 8 := Nat.and_lt_two_pow _ hm
  apply Nat.eq_of_testBit_eq
  intro i
  rw [Nat.testBit_and, Nat.testBit_two_pow_mul_add b ha, Nat.testBit_two_pow_mul_add M hm, show (a &&& m) + 256 * (b &&& M) = 2 ^ 8 * (b &&& M) + (a &&& m) by omega, Nat.testBit_two_pow_mul_add (b &&& M) hl]
  split
  · rw [Nat.testBit_and]
  · rw [Nat.testBit_and]
/-- A mask of so many like bytes. -/
def mask (m : Nat) : Nat → Nat
  | 0 => 0
  | k + 1 => m + 256 * mask m k
theorem mask_succ (m k : Nat) : mask m (k + 1) = m + 256 * mask m k := rfl
theorem and15 (x : Nat) : x &&& 15 = x % 16 := Nat.and_two_pow_sub_one_eq_mod x 4
def sw1 (k u : Nat) : Nat := (u / 2 &&& mask 85 k) + (u &&& mask 85 k)
def sw2 (k u : Nat) : Nat := (u / 4 &&& mask 51 k) + (u &&& mask 51 k)
def sw3 (k u : Nat) : Nat := (u / 16 + u) &&& mask 15 k
def sb1 (u : Nat) : Nat := (u / 2 &&& 85) + (u &&& 85)
def sb2 (u : Nat) : Nat := (u / 4 &&& 51) + (u &&& 51)
def sb3 (u : Nat) : Nat := (u / 16 + u) % 16
def pop (u : Nat) : Nat := sb3 (sb2 (sb1 u))
theorem low1 : ∀ l : Fin 256, ∀ t : Fin 2, ((l.val / 2 + 128 * t.val) &&& 85) = (l.val / 2 &&& 85) := by decide +kernel
theorem low2 : ∀ l : Fin 256, ∀ t : Fin 4, ((l.val / 4 + 64 * t.val) &&& 51) = (l.val / 4 &&& 51) := by decide +kernel
theorem sw1_byte (k l h : Nat) (hl : l < 256) : sw1 (k + 1) (l + 256 * h) = sb1 l + 256 * sw1 k h := by
  unfold sw1 sb1
  rw [mask_succ, show (l + 256 * h) / 2 = (l / 2 + 128 * (h % 2)) + 256 * (h / 2) by omega, land_byte _ _ _ _ (by omega) (by decide), land_byte _ _ _ _ hl (by decide)]
  have := low1 ⟨l, hl⟩ ⟨h % 2, by omega⟩
  dsimp only at this
  rw [this]
  omega
theorem sw2_byte (k l h : Nat) (hl : l < 256) : sw2 (k + 1) (l + 256 * h) = sb2 l + 256 * sw2 k h := by
  unfold sw2 sb2
  rw [mask_succ, show (l + 256 * h) / 4 = (l / 4 + 64 * (h % 4)) + 256 * (h / 4) by omega, land_byte _ _ _ _ (by omega) (by decide), land_byte _ _ _ _ hl (by decide)]
  have := low2 ⟨l, hl⟩ ⟨h % 4, by omega⟩
  dsimp only at this
  rw [this]
  omega
theorem sb1_lt : ∀ l : Fin 256, sb1 l.val < 256 := by decide +kernel
theorem sb2_sb1 : ∀ l : Fin 256, sb2 (sb1 l.val) ≤ 68 ∧ sb2 (sb1 l.val) % 16 ≤ 4 := by decide +kernel
theorem sw3_byte (k l h : Nat) (hl : l ≤ 68) (hh : h % 16 ≤ 4) : sw3 (k + 1) (l + 256 * h) = sb3 l + 256 * sw3 k h := by
  unfold sw3 sb3
  rw [mask_succ, show (l + 256 * h) / 16 + (l + 256 * h) = (l / 16 + l + 16 * (h % 16)) + 256 * (h / 16 + h) by omega, land_byte _ _ _ _ (by omega) (by decide)]
  rw [and15]
  omega
/-- The words' bytes, told one by one. -/
theorem sw_byte (k l h : Nat) (hl : l < 256) (hh : sw2 k (sw1 k h) % 16 ≤ 4) : sw3 (k + 1) (sw2 (k + 1) (sw1 (k + 1) (l + 256 * h))) = pop l + 256 * sw3 k (sw2 k (sw1 k h)) ∧ sw2 (k + 1) (sw1 (k + 1) (l + 256 * h)) % 16 ≤ 4 := by
  have h1 := sb1_lt ⟨l, hl⟩
  have h2 := sb2_sb1 ⟨l, hl⟩
  dsimp only at h1 h2
  rw [sw1_byte k l h hl, sw2_byte k _ _ h1, sw3_byte k _ _ h2.1 hh]
  exact ⟨rfl, by omega⟩
/-- All pops of so many bytes, in a row. -/
def pops : Nat → Nat → Nat
  | 0, _ => 0
  | k + 1, u => pop (u % 256) + 256 * pops k (u / 256)
theorem sw_pops (k u : Nat) (hu : u < 256 ^ k) : sw3 k (sw2 k (sw1 k u)) = pops k u ∧ sw2 k (sw1 k u) % 16 ≤ 4 := by
  induction k generalizing u with
  | zero => simp [sw3, sw2, sw1, mask, pops]
  | succ k ih =>
    have := ih (u / 256) (by rw [Nat.pow_succ] at hu; omega)
    have h2 := sw_byte k (u % 256) (u / 256) (by omega) this.2
    rw [show u % 256 + 256 * (u / 256) = u by omega, this.1] at h2
    exact h2
theorem pop_le : ∀ l : Fin 256, pop l.val ≤ 8 := by decide +kernel
/-- How many bits a number has, of so many bytes. -/
def popsum : Nat → Nat → Nat
  | 0, _ => 0
  | k + 1, u => pop (u % 256) + popsum k (u / 256)
theorem popb (u : Nat) : pop (u % 256) ≤ 8 := pop_le ⟨u % 256, Nat.mod_lt _ (by decide)⟩
theorem div_step (A lo M q : Nat) (h : A = lo + M * q) (hl : lo < M) : A / M = q := by
  subst h
  rw [Nat.add_mul_div_left _ _ (by omega), Nat.div_eq_of_lt hl, Nat.zero_add]
theorem g1 (p0 p1 p2 p3 p4 p5 p6 p7 : Nat) (h0 : p0 < 256) : (p0 + 256 * p1 + 65536 * p2 + 16777216 * p3 + 4294967296 * p4 + 1099511627776 * p5 + 281474976710656 * p6 + 72057594037927936 * p7) + (p0 + 256 * p1 + 65536 * p2 + 16777216 * p3 + 4294967296 * p4 + 1099511627776 * p5 + 281474976710656 * p6 + 72057594037927936 * p7) / 256 = (p0 + p1) + 256 * (p1 + p2) + 65536 * (p2 + p3) + 16777216 * (p3 + p4) + 4294967296 * (p4 + p5) + 1099511627776 * (p5 + p6) + 281474976710656 * (p6 + p7) + 72057594037927936 * p7 := by
  rw [div_step (p0 + 256 * p1 + 65536 * p2 + 16777216 * p3 + 4294967296 * p4 + 1099511627776 * p5 + 281474976710656 * p6 + 72057594037927936 * p7) (p0) 256 (p1 + 256 * p2 + 65536 * p3 + 16777216 * p4 + 4294967296 * p5 + 1099511627776 * p6 + 281474976710656 * p7) (by omega) (by omega)]
  clear h0
  omega
theorem g2 (c0 c1 c2 c3 c4 c5 c6 c7 : Nat) (h0 : c0 < 256) (h1 : c1 < 256) : (c0 + 256 * c1 + 65536 * c2 + 16777216 * c3 + 4294967296 * c4 + 1099511627776 * c5 + 281474976710656 * c6 + 72057594037927936 * c7) + (c0 + 256 * c1 + 65536 * c2 + 16777216 * c3 + 4294967296 * c4 + 1099511627776 * c5 + 281474976710656 * c6 + 72057594037927936 * c7) / 65536 = (c0 + c2) + 256 * (c1 + c3) + 65536 * (c2 + c4) + 16777216 * (c3 + c5) + 4294967296 * (c4 + c6) + 1099511627776 * (c5 + c7) + 281474976710656 * c6 + 72057594037927936 * c7 := by
  rw [div_step (c0 + 256 * c1 + 65536 * c2 + 16777216 * c3 + 4294967296 * c4 + 1099511627776 * c5 + 281474976710656 * c6 + 72057594037927936 * c7) (c0 + 256 * c1) 65536 (c2 + 256 * c3 + 65536 * c4 + 16777216 * c5 + 4294967296 * c6 + 1099511627776 * c7) (by omega) (by omega)]
  clear h0 h1
  omega
theorem g3 (d0 d1 d2 d3 d4 d5 d6 d7 : Nat) (h0 : d0 < 256) (h1 : d1 < 256) (h2 : d2 < 256) (h3 : d3 < 256) : (d0 + 256 * d1 + 65536 * d2 + 16777216 * d3 + 4294967296 * d4 + 1099511627776 * d5 + 281474976710656 * d6 + 72057594037927936 * d7) + (d0 + 256 * d1 + 65536 * d2 + 16777216 * d3 + 4294967296 * d4 + 1099511627776 * d5 + 281474976710656 * d6 + 72057594037927936 * d7) / 4294967296 = (d0 + d4) + 256 * (d1 + d5) + 65536 * (d2 + d6) + 16777216 * (d3 + d7) + 4294967296 * d4 + 1099511627776 * d5 + 281474976710656 * d6 + 72057594037927936 * d7 := by
  rw [div_step (d0 + 256 * d1 + 65536 * d2 + 16777216 * d3 + 4294967296 * d4 + 1099511627776 * d5 + 281474976710656 * d6 + 72057594037927936 * d7) (d0 + 256 * d1 + 65536 * d2 + 16777216 * d3) 4294967296 (d4 + 256 * d5 + 65536 * d6 + 16777216 * d7) (by omega) (by omega)]
  clear h0 h1 h2 h3
  omega
theorem g4 (e0 e1 e2 e3 e4 e5 e6 e7 : Nat) (h : e0 < 128) : (e0 + 256 * e1 + 65536 * e2 + 16777216 * e3 + 4294967296 * e4 + 1099511627776 * e5 + 281474976710656 * e6 + 72057594037927936 * e7) % 128 = e0 := by
  rw [show e0 + 256 * e1 + 65536 * e2 + 16777216 * e3 + 4294967296 * e4 + 1099511627776 * e5 + 281474976710656 * e6 + 72057594037927936 * e7 = e0 + 128 * (2 * e1 + 512 * e2 + 131072 * e3 + 33554432 * e4 + 8589934592 * e5 + 2199023255552 * e6 + 562949953421312 * e7) by omega, Nat.add_mul_mod_self_left, Nat.mod_eq_of_lt h]
theorem polylt (e0 e1 e2 e3 e4 e5 e6 e7 : Nat) (h0 : e0 ≤ 64) (h1 : e1 ≤ 64) (h2 : e2 ≤ 64) (h3 : e3 ≤ 64) (h4 : e4 ≤ 64) (h5 : e5 ≤ 64) (h6 : e6 ≤ 64) (h7 : e7 ≤ 64) : e0 + 256 * e1 + 65536 * e2 + 16777216 * e3 + 4294967296 * e4 + 1099511627776 * e5 + 281474976710656 * e6 + 72057594037927936 * e7 < 9223372036854775808 := by omega
theorem fold_p (p0 p1 p2 p3 p4 p5 p6 p7 : Nat) (h0 : p0 ≤ 8) (h1 : p1 ≤ 8) (h2 : p2 ≤ 8) (h3 : p3 ≤ 8) (h4 : p4 ≤ 8) (h5 : p5 ≤ 8) (h6 : p6 ≤ 8) (h7 : p7 ≤ 8) : ∃ x4 x5 x6, (p0 + 256 * p1 + 65536 * p2 + 16777216 * p3 + 4294967296 * p4 + 1099511627776 * p5 + 281474976710656 * p6 + 72057594037927936 * p7) + (p0 + 256 * p1 + 65536 * p2 + 16777216 * p3 + 4294967296 * p4 + 1099511627776 * p5 + 281474976710656 * p6 + 72057594037927936 * p7) / 256 = x4 ∧ x4 + x4 / 65536 = x5 ∧ x5 + x5 / 4294967296 = x6 ∧ x6 % 128 = p0 + p1 + p2 + p3 + p4 + p5 + p6 + p7 ∧ (p0 + 256 * p1 + 65536 * p2 + 16777216 * p3 + 4294967296 * p4 + 1099511627776 * p5 + 281474976710656 * p6 + 72057594037927936 * p7) < 9223372036854775808 ∧ x4 < 9223372036854775808 ∧ x5 < 9223372036854775808 ∧ x6 < 9223372036854775808 := by
  refine ⟨(p0 + p1) + 256 * (p1 + p2) + 65536 * (p2 + p3) + 16777216 * (p3 + p4) + 4294967296 * (p4 + p5) + 1099511627776 * (p5 + p6) + 281474976710656 * (p6 + p7) + 72057594037927936 * p7, ((p0 + p1) + (p2 + p3)) + 256 * ((p1 + p2) + (p3 + p4)) + 65536 * ((p2 + p3) + (p4 + p5)) + 16777216 * ((p3 + p4) + (p5 + p6)) + 4294967296 * ((p4 + p5) + (p6 + p7)) + 1099511627776 * ((p5 + p6) + p7) + 281474976710656 * (p6 + p7) + 72057594037927936 * p7, (((p0 + p1) + (p2 + p3)) + ((p4 + p5) + (p6 + p7))) + 256 * (((p1 + p2) + (p3 + p4)) + ((p5 + p6) + p7)) + 65536 * (((p2 + p3) + (p4 + p5)) + (p6 + p7)) + 16777216 * (((p3 + p4) + (p5 + p6)) + p7) + 4294967296 * ((p4 + p5) + (p6 + p7)) + 1099511627776 * ((p5 + p6) + p7) + 281474976710656 * (p6 + p7) + 72057594037927936 * p7, g1 p0 p1 p2 p3 p4 p5 p6 p7 (by omega), g2 (p0 + p1) (p1 + p2) (p2 + p3) (p3 + p4) (p4 + p5) (p5 + p6) (p6 + p7) p7 (by omega) (by omega), g3 ((p0 + p1) + (p2 + p3)) ((p1 + p2) + (p3 + p4)) ((p2 + p3) + (p4 + p5)) ((p3 + p4) + (p5 + p6)) ((p4 + p5) + (p6 + p7)) ((p5 + p6) + p7) (p6 + p7) p7 (by omega) (by omega) (by omega) (by omega), ?_, polylt p0 p1 p2 p3 p4 p5 p6 p7 (by omega) (by omega) (by omega) (by omega) (by omega) (by omega) (by omega) (by omega), polylt (p0 + p1) (p1 + p2) (p2 + p3) (p3 + p4) (p4 + p5) (p5 + p6) (p6 + p7) p7 (by omega) (by omega) (by omega) (by omega) (by omega) (by omega) (by omega) (by omega), polylt ((p0 + p1) + (p2 + p3)) ((p1 + p2) + (p3 + p4)) ((p2 + p3) + (p4 + p5)) ((p3 + p4) + (p5 + p6)) ((p4 + p5) + (p6 + p7)) ((p5 + p6) + p7) (p6 + p7) p7 (by omega) (by omega) (by omega) (by omega) (by omega) (by omega) (by omega) (by omega), polylt (((p0 + p1) + (p2 + p3)) + ((p4 + p5) + (p6 + p7))) (((p1 + p2) + (p3 + p4)) + ((p5 + p6) + p7)) (((p2 + p3) + (p4 + p5)) + (p6 + p7)) (((p3 + p4) + (p5 + p6)) + p7) ((p4 + p5) + (p6 + p7)) ((p5 + p6) + p7) (p6 + p7) p7 (by omega) (by omega) (by omega) (by omega) (by omega) (by omega) (by omega) (by omega)⟩
  rw [g4 (((p0 + p1) + (p2 + p3)) + ((p4 + p5) + (p6 + p7))) (((p1 + p2) + (p3 + p4)) + ((p5 + p6) + p7)) (((p2 + p3) + (p4 + p5)) + (p6 + p7)) (((p3 + p4) + (p5 + p6)) + p7) ((p4 + p5) + (p6 + p7)) ((p5 + p6) + p7) (p6 + p7) p7 (by omega)]
  omega
theorem pops_poly (u : Nat) : ∃ p0 p1 p2 p3 p4 p5 p6 p7, p0 ≤ 8 ∧ p1 ≤ 8 ∧ p2 ≤ 8 ∧ p3 ≤ 8 ∧ p4 ≤ 8 ∧ p5 ≤ 8 ∧ p6 ≤ 8 ∧ p7 ≤ 8 ∧ pops 8 u = p0 + 256 * p1 + 65536 * p2 + 16777216 * p3 + 4294967296 * p4 + 1099511627776 * p5 + 281474976710656 * p6 + 72057594037927936 * p7 ∧ popsum 8 u = p0 + p1 + p2 + p3 + p4 + p5 + p6 + p7 := by
  refine ⟨_, _, _, _, _, _, _, _, popb u, popb (u / 256), popb (u / 256 / 256), popb (u / 256 / 256 / 256), popb (u / 256 / 256 / 256 / 256), popb (u / 256 / 256 / 256 / 256 / 256), popb (u / 256 / 256 / 256 / 256 / 256 / 256), popb (u / 256 / 256 / 256 / 256 / 256 / 256 / 256), ?_, ?_⟩
  · simp only [pops]
    generalize pop (u % 256) = p0
    generalize pop (u / 256 % 256) = p1
    generalize pop (u / 256 / 256 % 256) = p2
    generalize pop (u / 256 / 256 / 256 % 256) = p3
    generalize pop (u / 256 / 256 / 256 / 256 % 256) = p4
    generalize pop (u / 256 / 256 / 256 / 256 / 256 % 256) = p5
    generalize pop (u / 256 / 256 / 256 / 256 / 256 / 256 % 256) = p6
    generalize pop (u / 256 / 256 / 256 / 256 / 256 / 256 / 256 % 256) = p7
    omega
  · simp only [popsum]
    omega
theorem fold_sum (u : Nat) : ∃ x4 x5 x6, pops 8 u + pops 8 u / 256 = x4 ∧ x4 + x4 / 65536 = x5 ∧ x5 + x5 / 4294967296 = x6 ∧ x6 % 128 = popsum 8 u ∧ pops 8 u < 9223372036854775808 ∧ x4 < 9223372036854775808 ∧ x5 < 9223372036854775808 ∧ x6 < 9223372036854775808 := by
  obtain ⟨p0, p1, p2, p3, p4, p5, p6, p7, h0, h1, h2, h3, h4, h5, h6, h7, e1, e2⟩ := pops_poly u
  rw [e1, e2]
  exact fold_p p0 p1 p2 p3 p4 p5 p6 p7 h0 h1 h2 h3 h4 h5 h6 h7
end Go.Proofs.Ytdjpohmgljhhcaa.A
