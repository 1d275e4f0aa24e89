/- Plain facts on bytes, numbers of eight bytes and lists, of which the laws on keys are made. -/
import Derived.Test.YthcfkilofgfgpaaAx2
namespace Go.Proofs.Ythcfkilofgfgpaa.A
open Go.RowKit Go.Proofs.YthcfkilofgfgpaaW.PrintWords Go.Proofs.YthcfkilofgfgpaaW.PrintLast Go.Proofs.YthcfkilofgfgpaaW.PrintMore
set_option linter.unusedVariables false
/-! ### bytes -/
theorem ev_val {α : Type} {g : Nat → Option α} {r r' : α} (h : Ev g r) (e : r = r') : Ev g r' := e ▸ h
theorem wrap_ok (n : Int) (h0 : -9223372036854775808 ≤ n) (h1 : n ≤ 9223372036854775807) : wrap64 n = n := by unfold wrap64; omega
def IsByte (x : Int) : Prop := 0 ≤ x ∧ x ≤ 255
theorem xor8_all : ∀ x : Fin 256, bits .xor .u8 ((x : Nat) : Int) 255 = 255 - ((x : Nat) : Int) ∧ bits .xor .u8 ((x : Nat) : Int) 128 = (((x : Nat) : Int) + 128) % 256 ∧ bits .xor .u8 ((x : Nat) : Int) 0 = ((x : Nat) : Int) := by decide +kernel
theorem xor8 {x : Int} (h : IsByte x) : bits .xor .u8 x 255 = 255 - x ∧ bits .xor .u8 x 128 = (x + 128) % 256 ∧ bits .xor .u8 x 0 = x := by
  obtain ⟨n, rfl⟩ := Int.eq_ofNat_of_zero_le h.1
  have hn : n < 256 := by have := h.2; omega
  exact xor8_all ⟨n, hn⟩
theorem wrap_u64 (n : Int) : IntKind.u64.wrap n = n % 18446744073709551616 := by simp [IntKind.wrap, IntKind.bits, IntKind.signed]
theorem xor_top_nat (n : Nat) (h : n < 18446744073709551616) : n ^^^ 9223372036854775808 = (9223372036854775808 + n) % 18446744073709551616 := by
  apply Nat.eq_of_testBit_eq
  intro i
  have e1 : (9223372036854775808 : Nat) = 2 ^ 63 := by decide
  have e2 : (18446744073709551616 : Nat) = 2 ^ 64 := by decide
  rw [e1, e2, Nat.testBit_xor, Nat.testBit_mod_two_pow, Nat.testBit_two_pow]
  rcases Nat.lt_trichotomy i 63 with hi | hi | hi
  · rw [Nat.testBit_two_pow_add_gt hi]
    have : ¬ 63 = i := by omega
    have h64 : i < 64 := by omega
    simp [this, h64]
  · subst hi
    rw [Nat.testBit_two_pow_add_eq]
    simp
  · have h64 : ¬ i < 64 := by omega
    have hb : n.testBit i = false := Nat.testBit_lt_two_pow (by
      have : 2 ^ 64 ≤ 2 ^ i := Nat.pow_le_pow_right (by decide) (by omega)
      rw [e2] at h
      omega)
    have : ¬ 63 = i := by omega
    simp [hb, h64, this]
theorem xor_top (n : Int) (h0 : 0 ≤ n) (h1 : n < 18446744073709551616) : bits .xor .u64 n 9223372036854775808 = (n + 9223372036854775808) % 18446744073709551616 := by
  obtain ⟨m, rfl⟩ := Int.eq_ofNat_of_zero_le h0
  have hm : m < 18446744073709551616 := by omega
  have e : bits .xor .u64 (m : Int) 9223372036854775808 = IntKind.u64.wrap ((m ^^^ 9223372036854775808 : Nat) : Int) := by
    have h2 : (BitVec.ofInt 64 (m : Int)).toNat = m := by
      rw [BitVec.ofInt_natCast, BitVec.toNat_ofNat, Nat.mod_eq_of_lt hm]
    have h3 : (BitVec.ofInt 64 (9223372036854775808 : Int)).toNat = 9223372036854775808 := by decide
    have e4 : (BitVec.ofInt 64 (m : Int) ^^^ BitVec.ofInt 64 (9223372036854775808 : Int)).toNat = m ^^^ 9223372036854775808 := by rw [BitVec.toNat_xor, h2, h3]
    exact congrArg (fun n : Nat => IntKind.u64.wrap (n : Int)) e4
  rw [e, xor_top_nat m hm, wrap_u64]
  omega
theorem or_step (u c : Int) (h0 : 0 ≤ u) (h1 : u < 72057594037927936) (hc : IsByte c) : bits .or .u64 (IntKind.u64.wrap (u * 256)) (IntKind.u64.wrap c) = u * 256 + c := by
  obtain ⟨c0, c1⟩ := hc
  rw [wrap_u64, wrap_u64, Int.emod_eq_of_lt (by omega) (by omega), Int.emod_eq_of_lt (by omega) (by omega)]
  have e2 : (18446744073709551616 : Int) = 2 ^ 64 := by decide
  refine bits_join .u64 64 (by decide) (fun n hn0 hn1 => ?_) 8 (u * 256) c (by omega) ?_ (by omega) c0 (by omega) (by omega)
  · rw [wrap_u64, e2]
    exact Int.emod_eq_of_lt hn0 hn1
  · show u * 256 % 2 ^ 8 = 0
    omega
theorem bytes_are (s : ByteArray) : ∀ x ∈ bytesOf s, IsByte x := by
  intro x hx
  unfold bytesOf at hx
  obtain ⟨b, _, rfl⟩ := List.mem_map.1 hx
  have := b.toNat_lt
  exact ⟨by omega, by omega⟩
theorem bytes_of_nums (l : List Int) (h : ∀ x ∈ l, IsByte x) : bytesOf (strOfNums l) = l := by
  unfold bytesOf strOfNums
  rw [List.map_map]
  conv => rhs; rw [← List.map_id l]
  apply List.map_congr_left
  intro x hx
  obtain ⟨h0, h1⟩ := h x hx
  simp
  omega
theorem nums_of_bytes (s : ByteArray) : strOfNums (bytesOf s) = s := by
  apply ByteArray.ext
  unfold bytesOf strOfNums
  rw [List.map_map]
  have : (fun n : Int => UInt8.ofNat n.toNat) ∘ (fun b : UInt8 => (b.toNat : Int)) = id := by
    funext b
    simp
  rw [this, List.map_id]
theorem nums_inj {a b : List Int} (ha : ∀ x ∈ a, IsByte x) (hb : ∀ x ∈ b, IsByte x) (h : strOfNums a = strOfNums b) : a = b := by
  rw [← bytes_of_nums a ha, h, bytes_of_nums b hb]
theorem toList_iff (a b : ByteArray) : a.toList = b.toList ↔ a = b := by
  constructor
  · intro h
    have e : ∀ s : ByteArray, s.toList = s.data.toList := fun s => ByteArray.toList_eq s
    rw [e, e] at h
    apply ByteArray.ext
    exact Array.toList_inj.1 h
  · rintro rfl; rfl
/-! ### eight bytes -/
def be (v : Int) : List Int := [v / 72057594037927936 % 256, v / 281474976710656 % 256, v / 1099511627776 % 256, v / 4294967296 % 256, v / 16777216 % 256, v / 65536 % 256, v / 256 % 256, v % 256]
def neg (x : Int) : Int := 255 - x
theorem be_bytes (v : Int) : ∀ x ∈ be v, IsByte x := by
  intro x hx
  simp only [be, List.mem_cons, List.not_mem_nil, or_false] at hx
  unfold IsByte
  rcases hx with rfl | rfl | rfl | rfl | rfl | rfl | rfl | rfl <;> omega
theorem be_len (v : Int) : (be v).length = 8 := rfl
def val (l : List Int) : Int := l.foldl (fun u c => u * 256 + c) 0
theorem val_be (v : Int) (h0 : 0 ≤ v) (h1 : v < 18446744073709551616) : val (be v) = v := by
  simp only [val, be, List.foldl]
  have a1 := Int.mul_ediv_add_emod v 256
  have a2 := Int.mul_ediv_add_emod (v / 256) 256
  have a3 := Int.mul_ediv_add_emod (v / 65536) 256
  have a4 := Int.mul_ediv_add_emod (v / 16777216) 256
  have a5 := Int.mul_ediv_add_emod (v / 4294967296) 256
  have a6 := Int.mul_ediv_add_emod (v / 1099511627776) 256
  have a7 := Int.mul_ediv_add_emod (v / 281474976710656) 256
  have b2 : v / 256 / 256 = v / 65536 := by omega
  have b3 : v / 65536 / 256 = v / 16777216 := by omega
  have b4 : v / 16777216 / 256 = v / 4294967296 := by omega
  have b5 : v / 4294967296 / 256 = v / 1099511627776 := by omega
  have b6 : v / 1099511627776 / 256 = v / 281474976710656 := by omega
  have b7 : v / 281474976710656 / 256 = v / 72057594037927936 := by omega
  have b8 : v / 72057594037927936 % 256 = v / 72057594037927936 := by omega
  rw [b8]
  omega
/-- The eight bytes that a number is written by. -/
def num8 (n : Int) : List Int := be (n + 9223372036854775808)
theorem num8_bytes (n : Int) : ∀ x ∈ num8 n, IsByte x := be_bytes _
theorem neg_bytes {l : List Int} (h : ∀ x ∈ l, IsByte x) : ∀ x ∈ l.map neg, IsByte x := by
  intro x hx
  obtain ⟨y, hy, rfl⟩ := List.mem_map.1 hx
  obtain ⟨h0, h1⟩ := h y hy
  unfold neg IsByte
  omega
theorem neg_neg (l : List Int) : (l.map neg).map neg = l := by
  rw [List.map_map]
  conv => rhs; rw [← List.map_id l]
  apply List.map_congr_left
  intro x _
  simp [neg]
  omega
end Go.Proofs.Ythcfkilofgfgpaa.A
