/- Plain facts: the document's sum and tag of bytes are the program's. -/
import Derived.Test.YtfkimpbgiiakcaaAx2
namespace Go.Proofs.Ytfkimpbgiiakcaa.A
open Go.RowKit Go.Proofs.YtfkimpbgiiakcaaW.PrintWords Go.Proofs.YtfkimpbgiiakcaaW.PrintLast Go.Proofs.YtfkimpbgiiakcaaW.PrintMore
set_option linter.unusedVariables false
theorem ev_val {α : Type} {g : Nat → Option α} {r r' : α} (h : Ev g r) (e : r = r') : Ev g r' := e ▸ h
theorem wrap_ok (n : Int) (h0 : -9223372036854775808 ≤ n) (h1 : n ≤ 9223372036854775807) : wrap64 n = n := by unfold wrap64; omega
def Bytes_ (l : List Int) : Prop := ∀ x ∈ l, 0 ≤ x ∧ x ≤ 255
theorem bytes_wf {l : List Int} (h : ∀ x ∈ l, (Lit.int .u8 x).wf = true) : Bytes_ l := by
  intro x hx
  have h1 := h x hx
  have e1 : IntKind.u8.min = 0 := by decide
  have e2 : IntKind.u8.max = 255 := by decide
  simp only [Lit.wf, Bool.and_eq_true, decide_eq_true_eq, e1, e2] at h1
  exact h1
theorem bytes_of_nums (l : List Int) (h : Bytes_ l) : bytesOf (strOfNums l) = l := by
  unfold bytesOf strOfNums
  rw [List.map_map]
  conv => rhs; rw [← List.map_id l]
  apply List.map_congr_left
  intro x hx
  obtain ⟨h0, h1⟩ := h x hx
  simp
  omega
theorem nums_of_bytes (s : ByteArray) : strOfNums (bytesOf s) = s := by
  apply ByteArray.ext
  unfold bytesOf strOfNums
  rw [List.map_map]
  have : (fun n : Int => UInt8.ofNat n.toNat) ∘ (fun b : UInt8 => (b.toNat : Int)) = id := by
    funext b
    simp
  rw [this, List.map_id]
theorem bytes_are (s : ByteArray) : Bytes_ (bytesOf s) := by
  intro x hx
  unfold bytesOf at hx
  obtain ⟨b, _, rfl⟩ := List.mem_map.1 hx
  have := b.toNat_lt
  exact ⟨by omega, by omega⟩
theorem nums_inj {a b : List Int} (ha : Bytes_ a) (hb : Bytes_ b) (h : strOfNums a = strOfNums b) : a = b := by
  rw [← bytes_of_nums a ha, h, bytes_of_nums b hb]
theorem toList_iff (a b : ByteArray) : a.toList = b.toList ↔ a = b := by
  constructor
  · intro h
    have e : ∀ s : ByteArray, s.toList = s.data.toList := fun s => ByteArray.toList_eq s
    rw [e, e] at h
    apply ByteArray.ext
    exact Array.toList_inj.1 h
  · rintro rfl; rfl
theorem nums_size (l : List Int) : (strOfNums l).size = l.length := by
  have : (strOfNums l).size = (strOfNums l).data.size := rfl
  rw [this]
  simp [strOfNums]
theorem drop_bt (s : ByteArray) (i : Nat) (h : i < s.size) : (bytesOf s).drop i = bt s (i : Int) :: (bytesOf s).drop (i + 1) := by
  have hl : i < (bytesOf s).length := by rw [bytesOf_length]; exact h
  have h1 := rd_bytesOf s (i : Int)
  rw [List.drop_eq_getElem_cons hl, ← h1]
  simp [rd, List.getD_eq_getElem?_getD, List.getElem?_eq_getElem hl]
theorem drop_end (s : ByteArray) : (bytesOf s).drop s.size = [] := by rw [← bytesOf_length s, List.drop_length]
/-! ### the sum -/
theorem crcBits_front (d x : Nat) : crcBits d (crcBit x) = crcBits (d + 1) x := by
  induction d with
  | zero => rfl
  | succ d ih => exact congrArg crcBit ih
theorem rsum_inner (s : ByteArray) (i r : Int) : ∀ (d j x : Nat), j + d = 8 → x < 4294967296 → Ev (fun k => ambryref03_Sum.l0 k s ((crcBits d x : Nat) : Int) (wrap64 (i + 1))) r → Ev (fun k => ambryref03_Sum.l1 k s (x : Int) i (j : Int)) r := by
  intro d
  induction d with
  | zero =>
    intro j x hj hx h
    refine Ev.step (f := fun k => ambryref03_Sum.l0 k s (x : Int) (wrap64 (i + 1))) (fun k => ?_) h
    simp only [ambryref03_Sum.l1]
    rw [if_neg (by omega)]
  | succ d ih =>
    intro j x hj hx h
    have hb := crcBit_lt x hx
    rw [← crcBits_front] at h
    have h2 := ih (j + 1) (crcBit x) (by omega) hb h
    refine Ev.step (f := fun k => ambryref03_Sum.l1 k s ((crcBit x : Nat) : Int) i ((j + 1 : Nat) : Int)) (fun k => ?_) h2
    have e0 := u32_and_nat x 1 hx (by decide)
    rw [nat_mask1] at e0
    have e0' : bits .and .u32 (x : Int) 1 = ((x % 2 : Nat) : Int) := e0
    have hw : wrap64 ((j : Int) + 1) = ((j + 1 : Nat) : Int) := by rw [wrap_ok _ (by omega) (by omega)]; omega
    have hh : (x : Int) / 2 = ((x / 2 : Nat) : Int) := by omega
    have e1 : bits .xor .u32 ((x / 2 : Nat) : Int) 2197175160 = (((x / 2) ^^^ 2197175160 : Nat) : Int) := u32_xor_nat (x / 2) 2197175160 (by omega) (by decide)
    simp only [ambryref03_Sum.l1]
    rw [if_pos (by omega), e0', hw, hh, e1]
    unfold crcBit
    by_cases hz : x % 2 = 1
    · rw [if_pos (by omega), if_pos hz]
    · rw [if_neg (by omega), if_neg hz]
theorem rsum_outer (s : ByteArray) (hs : s.size ≤ 140737488351232) (r : Int) : ∀ (d i x : Nat), i + d = s.size → x < 4294967296 → ((((bytesOf s).drop i).foldl crcByte x ^^^ 4294967295 : Nat) : Int) = r → Ev (fun k => ambryref03_Sum.l0 k s (x : Int) (i : Int)) r := by
  intro d
  induction d with
  | zero =>
    intro i x hi hx hr
    obtain rfl : i = s.size := by omega
    rw [drop_end] at hr
    refine Ev.step (f := fun _ => some r) (fun k => ?_) (Ev.now r)
    simp only [ambryref03_Sum.l0]
    rw [if_neg (by omega)]
    have e := u32_xor_nat x 4294967295 hx (by decide)
    have e2 : bits .xor .u32 (x : Int) 4294967295 = ((x ^^^ 4294967295 : Nat) : Int) := e
    rw [e2, ← hr]
    have hl : x ^^^ 4294967295 < 4294967296 := Nat.xor_lt_two_pow (n := 32) hx (by decide)
    rw [wrap_ok _ (by omega) (by omega)]
    rfl
  | succ d ih =>
    intro i x hi hx hr
    have hlt : i < s.size := by omega
    rw [drop_bt s i hlt, List.foldl_cons] at hr
    have hb := bt_range s (i : Int)
    have hby := crcByte_lt x (bt s (i : Int)) hx hb.2
    obtain ⟨c, hc⟩ : ∃ c : Nat, bt s (i : Int) = (c : Int) := ⟨(bt s (i : Int)).toNat, by omega⟩
    have hw : wrap64 ((i : Int) + 1) = ((i + 1 : Nat) : Int) := by rw [wrap_ok _ (by omega) (by omega)]; omega
    have h2 := ih (i + 1) _ (by omega) hby hr
    have h3 : Ev (fun k => ambryref03_Sum.l1 k s ((x ^^^ c : Nat) : Int) (i : Int) ((0 : Nat) : Int)) r := by
      refine rsum_inner s (i : Int) r 8 0 (x ^^^ c) rfl (Nat.xor_lt_two_pow (n := 32) hx (by omega)) ?_
      rw [hw]
      have e : crcByte x (bt s (i : Int)) = crcBits 8 (x ^^^ c) := by rw [hc]; rfl
      rw [← e]
      exact h2
    refine Ev.step (f := fun k => ambryref03_Sum.l1 k s ((x ^^^ c : Nat) : Int) (i : Int) ((0 : Nat) : Int)) (fun k => ?_) h3
    simp only [ambryref03_Sum.l0]
    rw [if_pos (by omega), if_pos (by omega), hc, show (c : Int) % 4294967296 = (c : Int) by omega, u32_xor_nat x c hx (by omega)]
    rfl
theorem rsum_ev (s : ByteArray) (hs : s.size ≤ 140737488351232) : Ev (fun k => ambryref03_Sum.f k s) ((crcAll (bytesOf s) ^^^ 4294967295 : Nat) : Int) :=
  rsum_outer s hs _ s.size 0 4294967295 (by omega) (by decide) rfl
/-! ### the tag -/
theorem rleft_is (n : Int) (h0 : -4611686018427387904 ≤ n) (h1 : n ≤ 4611686018427387904) : ambryref03_left.f n = some (n % 1048573) := by
  unfold ambryref03_left.f
  have e : (Int.tmod n 1048573 = n % 1048573) ∨ (Int.tmod n 1048573 = n % 1048573 - 1048573 ∧ n % 1048573 ≠ 0) := by
    rcases Int.lt_or_le n 0 with h | h
    · have h1 := Int.tmod_eq_emod (a := n) (b := 1048573)
      split at h1
      · exact .inl (by omega)
      · have h2 : (Int.natAbs 1048573 : Int) = 1048573 := rfl
        have h3 : n % 1048573 ≠ 0 := fun h => by
          have : ¬ (0 ≤ n ∨ (1048573 : Int) ∣ n) := by assumption
          omega
        exact .inr ⟨by omega, h3⟩
    · exact .inl (Int.tmod_eq_emod_of_nonneg h)
  have hr : wrap64 (Int.tmod n 1048573 + 1048573) = Int.tmod n 1048573 + 1048573 := by
    rw [wrap_ok _ (by omega) (by omega)]
  rw [hr, Int.tmod_eq_emod_of_nonneg (by omega)]
  congr 1
  omega
theorem rturn_is (a b : Int) (ha : 0 ≤ a ∧ a < 1048573) (hb : 0 ≤ b ∧ b < 1048573) : ambryref03_turn.f a b = some ((a * 3 - b * 2) % 1048573, (a * 2 + b * 3) % 1048573) := by
  unfold ambryref03_turn.f
  have w1 : wrap64 (3 * a) = 3 * a := wrap_ok _ (by omega) (by omega)
  have w2 : wrap64 (2 * b) = 2 * b := wrap_ok _ (by omega) (by omega)
  have w3 : wrap64 (2 * a) = 2 * a := wrap_ok _ (by omega) (by omega)
  have w4 : wrap64 (3 * b) = 3 * b := wrap_ok _ (by omega) (by omega)
  have w5 : wrap64 (3 * a - 2 * b) = 3 * a - 2 * b := wrap_ok _ (by omega) (by omega)
  have w6 : wrap64 (2 * a + 3 * b) = 2 * a + 3 * b := wrap_ok _ (by omega) (by omega)
  rw [w1, w2, w3, w4, w5, w6, rleft_is _ (by omega) (by omega), rleft_is _ (by omega) (by omega)]
  simp only [Option.bind_some]
  rw [Int.mul_comm 3 a, Int.mul_comm 2 b, Int.mul_comm 2 a, Int.mul_comm 3 b]
theorem rof_loop (s : ByteArray) (hs : s.size ≤ 140737488351232) (r : Int × Int) : ∀ (d i : Nat) (t : Int × Int), i + d = s.size → ((0 ≤ t.1 ∧ t.1 < 1048573) ∧ (0 ≤ t.2 ∧ t.2 < 1048573)) → ((bytesOf s).drop i).foldl tagStep t = r → Ev (fun k => ambryref03_Of.l0 k s (i : Int) t.1 t.2) r := by
  intro d
  induction d with
  | zero =>
    intro i t hi ht hr
    obtain rfl : i = s.size := by omega
    rw [drop_end] at hr
    refine Ev.step (f := fun _ => some r) (fun k => ?_) (Ev.now r)
    simp only [ambryref03_Of.l0]
    rw [if_neg (by omega), ← hr]
    rfl
  | succ d ih =>
    intro i t hi ht hr
    have hlt : i < s.size := by omega
    rw [drop_bt s i hlt, List.foldl_cons] at hr
    have hb := bt_range s (i : Int)
    have hst := tagStep_range t (bt s (i : Int))
    have h2 := ih (i + 1) _ (by omega) hst hr
    refine Ev.step (f := fun k => ambryref03_Of.l0 k s ((i + 1 : Nat) : Int) (tagStep t (bt s (i : Int))).1 (tagStep t (bt s (i : Int))).2) (fun k => ?_) h2
    have hw : wrap64 ((i : Int) + 1) = ((i + 1 : Nat) : Int) := by rw [wrap_ok _ (by omega) (by omega)]; omega
    simp only [ambryref03_Of.l0]
    rw [if_pos (by omega), rturn_is t.1 t.2 ht.1 ht.2]
    simp only [Option.bind_some]
    generalize bt s (i : Int) = c at *
    have hx := Int.emod_nonneg (t.1 * 3 - t.2 * 2) (show (1048573 : Int) ≠ 0 by decide)
    have hx2 := Int.emod_lt_of_pos (t.1 * 3 - t.2 * 2) (show (0 : Int) < 1048573 by decide)
    have hy := Int.emod_nonneg (t.1 * 2 + t.2 * 3) (show (1048573 : Int) ≠ 0 by decide)
    have hy2 := Int.emod_lt_of_pos (t.1 * 2 + t.2 * 3) (show (0 : Int) < 1048573 by decide)
    have es : tagStep t c = (((t.1 * 3 - t.2 * 2) % 1048573 + (c + 1)) % 1048573, ((t.1 * 2 + t.2 * 3) % 1048573 + (256 - c)) % 1048573) := rfl
    generalize (t.1 * 3 - t.2 * 2) % 1048573 = x at *
    generalize (t.1 * 2 + t.2 * 3) % 1048573 = y at *
    rw [if_pos (by omega), wrap_ok c (by omega) (by omega), wrap_ok (x + c) (by omega) (by omega), wrap_ok (x + c + 1) (by omega) (by omega), wrap_ok (y + 256) (by omega) (by omega), wrap_ok (y + 256 - c) (by omega) (by omega), rleft_is _ (by omega) (by omega)]
    simp only [Option.bind_some]
    rw [rleft_is _ (by omega) (by omega)]
    simp only [Option.bind_some]
    rw [hw, es, show x + c + 1 = x + (c + 1) by omega, show y + 256 - c = y + (256 - c) by omega]
theorem rof_ev (s : ByteArray) (hs : s.size ≤ 140737488351232) : Ev (fun k => ambryref03_Of.f k s) (tagOf (bytesOf s)) :=
  rof_loop s hs _ s.size 0 (0, 0) (by omega) (by decide) rfl
theorem tag_Sum_is (l : List Int) (h : Bytes_ l) (hl : l.length ≤ 140737488351232) : tag_Sum.f l = some ((crcAll l ^^^ 4294967295 : Nat) : Int) := by
  unfold tag_Sum.f
  rw [if_pos ⟨h, by omega⟩]
theorem tag_Of_is (l : List Int) (h : Bytes_ l) (hl : l.length ≤ 140737488355328) : tag_Of.f l = some (tagOf l) := by
  unfold tag_Of.f
  rw [if_pos ⟨h, by omega⟩]
end Go.Proofs.Ytfkimpbgiiakcaa.A
