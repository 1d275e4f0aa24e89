/- Of bytes whose bits differ only within 32 bits that follow one another, and somewhere, the sums are not the same. -/
import Derived.Test.YtfkimpbgiiakcaaAx3
import Derived.Test.YtfkimpbgiiakcaaP1
namespace Go.Proofs.Ytfkimpbgiiakcaa.A
open Go.RowKit Go.Proofs.YtfkimpbgiiakcaaW.PrintWords Go.Proofs.YtfkimpbgiiakcaaW.PrintLast Go.Proofs.YtfkimpbgiiakcaaW.PrintMore
set_option linter.unusedVariables false
theorem xor_half (x y : Nat) : (x ^^^ y) / 2 = (x / 2) ^^^ (y / 2) := by
  apply Nat.eq_of_testBit_eq
  intro i
  rw [Nat.testBit_div_two, Nat.testBit_xor, Nat.testBit_xor, Nat.testBit_div_two, Nat.testBit_div_two]
theorem xor_odd (x y : Nat) : (x ^^^ y) % 2 = (x % 2 + y % 2) % 2 := by
  have h : (x ^^^ y) % 2 ^ 1 = x % 2 ^ 1 ^^^ y % 2 ^ 1 := Nat.xor_mod_two_pow
  rw [Nat.pow_one] at h
  rw [h]
  rcases Nat.mod_two_eq_zero_or_one x with a | a <;> rcases Nat.mod_two_eq_zero_or_one y with b | b <;> rw [a, b] <;> decide
theorem xor_nought {x y : Nat} (h : x ^^^ y = 0) : x = y := by
  have h1 := congrArg (fun z => z ^^^ y) h
  simp only [Nat.xor_assoc, Nat.xor_self, Nat.xor_zero, Nat.zero_xor] at h1
  exact h1
theorem crcBit_xor (x y : Nat) : crcBit (x ^^^ y) = crcBit x ^^^ crcBit y := by
  unfold crcBit
  rw [xor_odd, xor_half]
  rcases Nat.mod_two_eq_zero_or_one x with a | a <;> rcases Nat.mod_two_eq_zero_or_one y with b | b
  · rw [a, b, if_neg (by decide), if_neg (by decide), if_neg (by decide)]
  · rw [a, b, if_pos (by decide), if_neg (by decide), if_pos (by decide), Nat.xor_assoc]
  · rw [a, b, if_pos (by decide), if_pos (by decide), if_neg (by decide)]
    rw [Nat.xor_assoc, Nat.xor_comm (y / 2), ← Nat.xor_assoc]
  · rw [a, b, if_neg (by decide), if_pos (by decide), if_pos (by decide)]
    rw [Nat.xor_assoc, Nat.xor_comm (y / 2), ← Nat.xor_assoc 2197175160, Nat.xor_self, Nat.zero_xor]
theorem crcBits_xor (j x y : Nat) : crcBits j (x ^^^ y) = crcBits j x ^^^ crcBits j y := by
  induction j with
  | zero => rfl
  | succ j ih => show crcBit (crcBits j (x ^^^ y)) = _; rw [ih, crcBit_xor]; rfl
theorem crcBits_add (j k x : Nat) : crcBits (j + k) x = crcBits j (crcBits k x) := by
  induction j with
  | zero => rw [Nat.zero_add]; rfl
  | succ j ih => rw [Nat.succ_add]; exact congrArg crcBit ih
theorem crcBit_twice (x : Nat) : crcBit (x * 2) = x := by
  unfold crcBit
  rw [if_neg (by omega)]
  omega
theorem crcBits_shift (j x : Nat) : crcBits j (x * 2 ^ j) = x := by
  induction j generalizing x with
  | zero => rw [Nat.pow_zero, Nat.mul_one]; rfl
  | succ j ih =>
    show crcBit (crcBits j (x * 2 ^ (j + 1))) = x
    rw [Nat.pow_succ, Nat.mul_comm (2 ^ j) 2, ← Nat.mul_assoc, ih, crcBit_twice]
theorem crcBit_ne {x : Nat} (h0 : x ≠ 0) (h : x < 4294967296) : crcBit x ≠ 0 := by
  unfold crcBit
  split
  · intro e
    have h1 := xor_nought e
    omega
  · omega
theorem crcBits_ne (j : Nat) {x : Nat} (h0 : x ≠ 0) (h : x < 4294967296) : crcBits j x ≠ 0 := by
  induction j with
  | zero => exact h0
  | succ j ih => exact crcBit_ne ih (crcBits_lt j x h)
/-- Bytes as one number, the first the lowest. -/
def leNum : List Int → Nat
  | [] => 0
  | c :: l => c.toNat ^^^ (leNum l * 2 ^ 8)
theorem crcFold_is (l : List Int) : ∀ s, l.foldl crcByte s = crcBits (8 * l.length) (s ^^^ leNum l) := by
  induction l with
  | nil => intro s; show s = s ^^^ 0; rw [Nat.xor_zero]
  | cons c l ih =>
    intro s
    rw [List.foldl_cons, ih, List.length_cons, Nat.mul_succ, crcBits_add]
    congr 1
    show crcBits 8 (s ^^^ c.toNat) ^^^ leNum l = crcBits 8 (s ^^^ (c.toNat ^^^ leNum l * 2 ^ 8))
    rw [← Nat.xor_assoc, crcBits_xor 8 (s ^^^ c.toNat), crcBits_shift]
theorem crc_apart (a b : List Int) (hl : a.length = b.length) (t w : Nat) (hw : w ≠ 0) (hw2 : w < 4294967296) (ht : t ≤ 8 * a.length) (h : leNum b = leNum a ^^^ (w * 2 ^ t)) : crcAll a ≠ crcAll b := by
  unfold crcAll
  rw [crcFold_is, crcFold_is, h, ← hl, ← Nat.xor_assoc, crcBits_xor _ (4294967295 ^^^ leNum a)]
  intro e
  have e2 : crcBits (8 * a.length) (w * 2 ^ t) = 0 := by
    have h1 := congrArg (fun z => crcBits (8 * a.length) (4294967295 ^^^ leNum a) ^^^ z) e
    simp only [Nat.xor_self] at h1
    rw [← Nat.xor_assoc, Nat.xor_self, Nat.zero_xor] at h1
    exact h1.symm
  rw [show 8 * a.length = (8 * a.length - t) + t by omega, crcBits_add, crcBits_shift] at e2
  exact crcBits_ne _ hw hw2 e2
theorem xor_mul_pow (a b k : Nat) : (a ^^^ b) * 2 ^ k = (a * 2 ^ k) ^^^ (b * 2 ^ k) := by
  rw [← Nat.shiftLeft_eq, ← Nat.shiftLeft_eq, ← Nat.shiftLeft_eq, Nat.shiftLeft_xor_distrib]
theorem leNum_flip (l : List Int) : ∀ (q r : Nat), q < l.length → leNum (l.set q (((rd l (q : Int)).toNat ^^^ 2 ^ r : Nat) : Int)) = leNum l ^^^ 2 ^ (8 * q + r) := by
  induction l with
  | nil => intro q r h; exact absurd h (Nat.not_lt_zero _)
  | cons c l ih =>
    intro q r h
    cases q with
    | zero =>
      show ((c.toNat ^^^ 2 ^ r : Nat) : Int).toNat ^^^ (leNum l * 2 ^ 8) = (c.toNat ^^^ (leNum l * 2 ^ 8)) ^^^ 2 ^ (8 * 0 + r)
      rw [Int.toNat_natCast, Nat.mul_zero, Nat.zero_add, Nat.xor_assoc, Nat.xor_comm (2 ^ r), ← Nat.xor_assoc]
    | succ q =>
      have e : rd (c :: l) ((q + 1 : Nat) : Int) = rd l (q : Int) := by
        unfold rd
        rw [Int.toNat_natCast, Int.toNat_natCast, List.getD_cons_succ]
      rw [e, List.set_cons_succ]
      show c.toNat ^^^ (leNum (l.set q _) * 2 ^ 8) = (c.toNat ^^^ (leNum l * 2 ^ 8)) ^^^ 2 ^ (8 * (q + 1) + r)
      rw [ih q r (by simpa using h), xor_mul_pow, ← Nat.pow_add, Nat.xor_assoc]
      congr 3
      omega
theorem u64_small (n : Int) (h0 : 0 ≤ n) (h1 : n < 18446744073709551616) : IntKind.u64.wrap n = n := by
  have e : IntKind.u64.wrap n = n % 18446744073709551616 := by simp [IntKind.wrap, IntKind.bits, IntKind.signed]
  rw [e]
  omega
theorem wrap_nat7 (n : Nat) (h : n ≤ 9223372036854775807) : wrap64 (n : Int) = (n : Int) := wrap_ok _ (by omega) (by omega)
theorem wrap_add7 (a b : Nat) (h : a + b ≤ 9223372036854775807) : wrap64 ((a : Int) + (b : Int)) = ((a + b : Nat) : Int) := by rw [wrap_ok _ (by omega) (by omega)]; omega
theorem wrap_next7 (n : Nat) (h : n < 9223372036854775807) : wrap64 ((n : Int) + 1) = ((n + 1 : Nat) : Int) := by rw [wrap_ok _ (by omega) (by omega)]; omega
theorem wrap_eight (n : Nat) (h : n ≤ 140737488351232) : wrap64 (8 * (n : Int)) = ((8 * n : Nat) : Int) := by rw [wrap_ok _ (by omega) (by omega)]; omega
theorem u64_nat7 (n : Nat) (h : n ≤ 9223372036854775807) : IntKind.u64.wrap (n : Int) = (n : Int) := u64_small _ (by omega) (by omega)
theorem one_shift : ∀ r : Fin 8, shl .u8 1 ((r.val : Nat) : Int) = ((2 ^ r.val : Nat) : Int) := by decide
theorem flip_byte (x : Int) (hx : 0 ≤ x ∧ x ≤ 255) (r : Nat) (hr : r < 8) : Go.bits .xor .u8 x (shl .u8 1 (r : Int)) = ((x.toNat ^^^ 2 ^ r : Nat) : Int) ∧ x.toNat ^^^ 2 ^ r < 256 := by
  have hp : 2 ^ r < 256 := by
    have : 2 ^ r < 2 ^ 8 := Nat.pow_lt_pow_right (by decide) hr
    exact this
  have e := one_shift ⟨r, hr⟩
  simp only at e
  obtain ⟨m, rfl⟩ := Int.eq_ofNat_of_zero_le hx.1
  rw [e, u8_xor_nat m (2 ^ r) (by omega) hp, Int.toNat_natCast]
  exact ⟨rfl, Nat.xor_lt_two_pow (n := 8) (by omega) hp⟩
theorem rd_mem_byte {l : List Int} (h : Bytes_ l) (i : Int) : 0 ≤ rd l i ∧ rd l i ≤ 255 := by
  unfold rd
  rw [List.getD_eq_getElem?_getD]
  by_cases hi : i.toNat < l.length
  · rw [List.getElem?_eq_getElem hi]
    exact h _ (List.getElem_mem hi)
  · rw [List.getElem?_eq_none (by omega)]
    decide
theorem xor_top_ne {w i : Nat} (h : w < 2 ^ i) : w ^^^ 2 ^ i ≠ 0 ∧ w ^^^ 2 ^ i < 2 ^ (i + 1) := by
  constructor
  · intro e
    have := xor_nought e
    omega
  · have h1 : 2 ^ i < 2 ^ (i + 1) := Nat.pow_lt_pow_right (by decide) (by omega)
    exact Nat.xor_lt_two_pow (by omega) h1
theorem sum_apart {a b : Nat} (ha : a < 4294967296) (h : a ≠ b) : ((a ^^^ 4294967295 : Nat) : Int) ≠ ((b ^^^ 4294967295 : Nat) : Int) := by
  intro e
  have e2 : a ^^^ 4294967295 = b ^^^ 4294967295 := by omega
  have h1 := congrArg (fun z => z ^^^ 4294967295) e2
  simp only [Nat.xor_assoc, Nat.xor_self, Nat.xor_zero] at h1
  exact h h1
/-- What stands behind the loop. -/
theorem turned_end (l c : List Int) (hl : l.length ≤ 140737488351232) (hb : Bytes_ l) (hc : Bytes_ c) (hlen : c.length = l.length) (t w : Nat) (ht : t ≤ 8 * l.length) (hw : w < 4294967296) (h : leNum c = leNum l ^^^ (w * 2 ^ t)) (x2 x7 x8 x11 : Int) :
    Ev (fun k => ambrylaw03_TagTurned.j2 k l x2 x7 x8 c (decide (w ≠ 0)) x11 false) true := by
  refine Ev.step (f := fun _ => some true) (fun k => ?_) (Ev.now _)
  have hsl := tag_Sum_is l hb (by omega)
  have hsc := tag_Sum_is c hc (by omega)
  have hz : ([] : List Int).length + l.length < 140737488355328 := by rw [List.length_nil]; omega
  have hbr : Bytes_ l := hb
  simp only [ambrylaw03_TagTurned.j2, Bool.false_eq_true, if_false]
  by_cases hw0 : w = 0
  · have e : decide (w ≠ 0) = false := decide_eq_false (fun q => q hw0)
    rw [e, if_neg (by decide), hsl]
    simp only [Option.bind_some]
    rw [if_pos hz, List.nil_append, hsl]
    simp only [Option.bind_some, if_true]
    rfl
  · have e : decide (w ≠ 0) = true := decide_eq_true hw0
    have hne := sum_apart (crcAll_lt l hbr) (crc_apart l c hlen.symm t w hw0 hw ht h)
    rw [e, if_pos rfl, hsl, hsc]
    simp only [Option.bind_some]
    rw [if_neg hne, if_pos hz, List.nil_append, hsl]
    simp only [Option.bind_some, if_true]
    rfl
theorem tdiv_nat (a b : Nat) : Int.tdiv (a : Int) (b : Int) = ((a / b : Nat) : Int) := rfl
theorem tmod_nat (a b : Nat) : Int.tmod (a : Int) (b : Int) = ((a % b : Nat) : Int) := rfl
theorem turned_loop (l : List Int) (hl : l.length ≤ 140737488351232) (hb : Bytes_ l) (x2 : Int) (t : Nat) (ht : t < 8 * l.length) : ∀ (d i : Nat) (c : List Int) (w : Nat), i + d = 32 → Bytes_ c → c.length = l.length → w < 2 ^ i → leNum c = leNum l ^^^ (w * 2 ^ t) →
    Ev (fun k => ambrylaw03_TagTurned.l0 k l x2 ((8 * l.length : Nat) : Int) (t : Int) c (decide (w ≠ 0)) (i : Int)) true := by
  intro d
  induction d with
  | zero =>
    intro i c w hi hc hlen hw h
    obtain rfl : i = 32 := by omega
    refine Ev.step (fun k => ?_) (turned_end l c hl hb hc hlen t w (by omega) hw h x2 ((8 * l.length : Nat) : Int) (t : Int) ((32 : Nat) : Int))
    simp only [ambrylaw03_TagTurned.l0]
    rw [if_neg (by omega)]
  | succ d ih =>
    intro i c w hi hc hlen hw h
    have hw32 : w < 4294967296 := by
      have : 2 ^ i ≤ 2 ^ 32 := Nat.pow_le_pow_right (by decide) (by omega)
      omega
    have hlt : (i : Int) < 32 := by omega
    have hti : t + i ≤ 9223372036854775807 := by omega
    have hinx : i < 9223372036854775807 := by omega
    have hi9 : i ≤ 9223372036854775807 := by omega
    by_cases hin : t + i < 8 * l.length
    · have c1 : decide (((t + i : Nat) : Int) < ((8 * l.length : Nat) : Int)) = true := decide_eq_true (by omega)
      refine Ev.step (f := fun k => ambrylaw03_TagTurned.j2 k l x2 ((8 * l.length : Nat) : Int) (t : Int) c (decide (w ≠ 0)) (i : Int) true) (fun k => ?_) ?_
      · simp only [ambrylaw03_TagTurned.l0]
        rw [if_pos hlt, wrap_add7 _ _ hti, c1]
      · have c2 : (0 : Int) ≤ (i : Int) := by omega
        by_cases hbit : (Go.bits .and .u32 (shr .u32 x2 (i : Int)) 1) = 1
        · have q8 : (t + i) / 8 < l.length := by omega
          have m8 : (t + i) % 8 < 8 := Nat.mod_lt _ (by decide)
          have hqr : 8 * ((t + i) / 8) + (t + i) % 8 = t + i := Nat.div_add_mod _ _
          have hby := rd_mem_byte hc (((t + i) / 8 : Nat) : Int)
          obtain ⟨f1, f2⟩ := flip_byte _ hby ((t + i) % 8) m8
          have hfl := leNum_flip c ((t + i) / 8) ((t + i) % 8) (by omega)
          rw [hqr] at hfl
          obtain ⟨x1, x1'⟩ := xor_top_ne hw
          have e8 : Int.tdiv ((t + i : Nat) : Int) 8 = (((t + i) / 8 : Nat) : Int) := rfl
          have e9 : Int.tmod ((t + i : Nat) : Int) 8 = (((t + i) % 8 : Nat) : Int) := rfl
          have c3 : (0 : Int) ≤ (((t + i) / 8 : Nat) : Int) := by omega
          have c4 : (((t + i) / 8 : Nat) : Int) < (c.length : Int) := by omega
          have c5 : (0 : Int) ≤ (((t + i) % 8 : Nat) : Int) := by omega
          have hq9 : (t + i) / 8 ≤ 9223372036854775807 := by omega
          have hm9 : (t + i) % 8 ≤ 9223372036854775807 := by omega
          have hd' : decide (w ^^^ 2 ^ i ≠ 0) = true := decide_eq_true x1
          generalize (t + i) / 8 = q at *
          generalize (t + i) % 8 = r at *
          have hcb : Bytes_ (c.set q (((rd c (q : Int)).toNat ^^^ 2 ^ r : Nat) : Int)) := by
            intro y hy
            rcases List.mem_or_eq_of_mem_set hy with hy | hy
            · exact hc y hy
            · rw [hy]
              exact ⟨by omega, by omega⟩
          have hle : leNum (c.set q (((rd c (q : Int)).toNat ^^^ 2 ^ r : Nat) : Int)) = leNum l ^^^ ((w ^^^ 2 ^ i) * 2 ^ t) := by
            rw [hfl, h, xor_mul_pow, ← Nat.pow_add, Nat.xor_assoc, Nat.add_comm t i]
          have h2 := ih (i + 1) _ (w ^^^ 2 ^ i) (by omega) hcb (by rw [List.length_set]; exact hlen) x1' hle
          rw [hd'] at h2
          refine Ev.step (fun k => ?_) h2
          simp only [ambrylaw03_TagTurned.j2, if_true]
          rw [u64_nat7 _ hi9, if_pos c2, if_pos hbit, wrap_add7 _ _ hti, e8, e9, wrap_nat7 _ hq9, u64_nat7 _ hm9, if_pos c3, if_pos c4, if_pos c5, f1, Int.toNat_natCast, wrap_next7 _ hinx]
        · have h2 := ih (i + 1) c w (by omega) hc hlen (Nat.lt_trans hw (Nat.pow_lt_pow_right (by decide) (by omega))) h
          refine Ev.step (fun k => ?_) h2
          simp only [ambrylaw03_TagTurned.j2, if_true]
          rw [u64_nat7 _ hi9, if_pos c2, if_neg hbit, wrap_next7 _ hinx]
    · have c1 : decide (((t + i : Nat) : Int) < ((8 * l.length : Nat) : Int)) = false := decide_eq_false (by omega)
      refine Ev.step (fun k => ?_) (turned_end l c hl hb hc hlen t w (by omega) hw32 h x2 ((8 * l.length : Nat) : Int) (t : Int) (i : Int))
      simp only [ambrylaw03_TagTurned.l0]
      rw [if_pos hlt, wrap_add7 _ _ hti, c1]
theorem pureTagTurned (l : List Int) (a1 a2 : Int) (hl : l.length ≤ 140737488351232) (hb : Bytes_ l) : ∃ k, ambrylaw03_TagTurned.f k l a1 a2 = some true := by
  have hend : Ev (fun k => ambrylaw03_TagTurned.j0 k l a1 a2 ((8 * l.length : Nat) : Int) true) true := by
    refine Ev.step (f := fun _ => some true) (fun k => ?_) (Ev.now _)
    simp only [ambrylaw03_TagTurned.j0, if_true]
    rfl
  have h : Ev (fun k => ambrylaw03_TagTurned.f k l a1 a2) true := by
    by_cases hn : l.length = 0
    · refine Ev.congr (fun k => ?_) hend
      unfold ambrylaw03_TagTurned.f
      rw [wrap_eight _ hl, if_pos (by omega)]
    · cases hbits : (a2 == 0)
      · have hr : ∃ m : Nat, IntKind.u64.wrap a1 = (m : Int) := by
          have e : IntKind.u64.wrap a1 = a1 % 18446744073709551616 := by simp [IntKind.wrap, IntKind.bits, IntKind.signed]
          exact ⟨(a1 % 18446744073709551616).toNat, by rw [e]; omega⟩
        obtain ⟨m, hm⟩ := hr
        have ht : m % (8 * l.length) < 8 * l.length := Nat.mod_lt _ (Nat.pos_of_ne_zero (fun e => hn (by clear hm; omega)))
        have h89 : 8 * l.length ≤ 9223372036854775807 := by clear hm; omega
        have ht9 : m % (8 * l.length) ≤ 9223372036854775807 := Nat.le_of_lt (Nat.lt_of_lt_of_le ht h89)
        have h2 := turned_loop l hl hb a2 (m % (8 * l.length)) ht 32 0 l 0 rfl hb rfl (by decide) (by rw [Nat.zero_mul, Nat.xor_zero])
        refine Ev.congr (f := fun k => ambrylaw03_TagTurned.j0 k l a1 a2 ((8 * l.length : Nat) : Int) false) (fun k => ?_) (Ev.step (fun k => ?_) h2)
        · unfold ambrylaw03_TagTurned.f
          rw [wrap_eight _ hl, if_neg (by omega), hbits]
        · have hz : ([] : List Int).length + l.length < 140737488355328 := by rw [List.length_nil]; omega
          have c0 : ¬ ((8 * l.length : Nat) : Int) = 0 := by clear hm; omega
          simp only [ambrylaw03_TagTurned.j0, Bool.false_eq_true, if_false]
          rw [u64_nat7 _ h89, if_neg c0, hm, tmod_nat, wrap_nat7 _ ht9]
          simp only [Option.bind_some]
          rw [if_pos hz, List.nil_append]
          rfl
      · refine Ev.congr (fun k => ?_) hend
        unfold ambrylaw03_TagTurned.f
        rw [wrap_eight _ hl, if_neg (by omega), hbits]
  exact h.rounds
end Go.Proofs.Ytfkimpbgiiakcaa.A
