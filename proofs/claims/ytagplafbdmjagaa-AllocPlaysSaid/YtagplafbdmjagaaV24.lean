/- Rows, page by page. -/
import Derived.Test.YtagplafbdmjagaaV23
namespace Go.Proofs.Ytagplafbdmjagaa.A
set_option linter.unusedVariables false
/-- Rows, with one page more that is free. -/
def extR (n : Nat) : List (Nat × Nat) → List (Nat × Nat)
  | [] => [(n, 1)]
  | r :: l => if r.1 + r.2 = n then (r.1, r.2 + 1) :: l else r :: extR n l
theorem freeFrom_more (T : Nat → Bool) (i d : Nat) : freeFrom T i (d + 1) = if freeFrom T i d < d then freeFrom T i d else (if T (i + d) then d else d + 1) := by
  induction d generalizing i with
  | zero =>
    rw [freeFrom]
    simp [freeFrom]
  | succ d ih =>
    have e1 : freeFrom T i (d + 1 + 1) = if T i then 0 else freeFrom T (i + 1) (d + 1) + 1 := rfl
    have e2 : freeFrom T i (d + 1) = if T i then 0 else freeFrom T (i + 1) d + 1 := rfl
    rw [e1, e2]
    by_cases h : T i
    · simp [h]
    · rw [if_neg h, if_neg h, ih]
      rw [show i + 1 + d = i + (d + 1) by omega]
      by_cases g : freeFrom T (i + 1) d < d
      · rw [if_pos g, if_pos (show freeFrom T (i + 1) d + 1 < d + 1 by omega)]
      · rw [if_neg g, if_neg (show ¬ freeFrom T (i + 1) d + 1 < d + 1 by omega)]
        split <;> rfl
theorem rows_more_on (T : Nat → Bool) (n f i : Nat) (hf : n + 1 ≤ f + i) (ht : T n = true) : rowsFrom T (n + 1) f i = rowsFrom T n f i := by
  induction f generalizing i with
  | zero => rfl
  | succ f ih =>
    rw [rowsFrom, rowsFrom]
    by_cases g1 : i < n
    · rw [if_pos g1, if_pos (by omega), show n + 1 - i = (n - i) + 1 by omega, freeFrom_more, show i + (n - i) = n by omega, ht]
      have hle := freeFrom_le T i (n - i)
      generalize freeFrom T i (n - i) = m at *
      have e : (if m < n - i then m else if true = true then n - i else n - i + 1) = m := by
        split
        · rfl
        · simp; omega
      rw [e, ih (i + m + 1) (by omega), ih (i + 1) (by omega)]
    · rw [if_neg g1]
      by_cases g2 : i < n + 1
      · obtain rfl : i = n := by omega
        have h0 : freeFrom T i (i + 1 - i) = 0 := freeFrom_off ht
        rw [if_pos g2, h0, if_neg (by omega), rowsFrom_fuel T (i + 1) f 0 (i + 1) (by omega) (by omega), rowsFrom]
      · rw [if_neg g2]
theorem rows_more_off (T : Nat → Bool) (n f i : Nat) (hf : n + 1 ≤ f + i) (hi : i ≤ n) (ht : T n = false) : rowsFrom T (n + 1) f i = extR n (rowsFrom T n f i) := by
  induction f generalizing i with
  | zero => omega
  | succ f ih =>
    rw [rowsFrom, rowsFrom]
    by_cases g1 : i < n
    · rw [if_pos g1, if_pos (by omega), show n + 1 - i = (n - i) + 1 by omega, freeFrom_more, show i + (n - i) = n by omega, ht]
      have hle := freeFrom_le T i (n - i)
      have hen := freeFrom_end T i (n - i)
      generalize freeFrom T i (n - i) = m at *
      by_cases g2 : m < n - i
      · rw [if_pos g2]
        by_cases g3 : 0 < m
        · rw [if_pos g3, if_pos g3, extR, if_neg (by simp only; omega), ih (i + m + 1) (by omega) (by omega)]
        · rw [if_neg g3, if_neg g3, ih (i + 1) (by omega) (by omega)]
      · obtain rfl : m = n - i := by omega
        have e : (if n - i < n - i then n - i else if false = true then n - i else n - i + 1) = n - i + 1 := by simp
        rw [e, if_pos (by omega), if_pos (show 0 < n - i by omega), extR, if_pos (by simp only; omega),
          rowsFrom_fuel T (n + 1) f 0 _ (by omega) (by omega), rowsFrom_fuel T n f 0 _ (by omega) (by omega), rowsFrom, rowsFrom]
    · obtain rfl : i = n := by omega
      rw [if_neg g1, if_pos (by omega), show i + 1 - i = 0 + 1 by omega]
      have h1 : freeFrom T i (0 + 1) = 1 := by
        rw [freeFrom, if_neg (by simp [ht])]
        simp [freeFrom]
      rw [h1, if_pos (by omega), rowsFrom_fuel T (i + 1) f 0 _ (by omega) (by omega), rowsFrom, extR]
theorem extR_far {n : Nat} {L : List (Nat × Nat)} (h : ∀ r ∈ L, r.1 + r.2 < n) : extR n L = L ++ [(n, 1)] := by
  induction L with
  | nil => rfl
  | cons r l ih =>
    rw [extR, if_neg (by have := h r (List.mem_cons_self ..); omega), ih (fun s hs => h s (List.mem_cons_of_mem _ hs))]
    rfl
theorem extR_last {n a m : Nat} {L : List (Nat × Nat)} (h : ∀ r ∈ L, r.1 + r.2 < n) (he : a + m = n) : extR n (L ++ [(a, m)]) = L ++ [(a, m + 1)] := by
  induction L with
  | nil => simp [extR, he]
  | cons r l ih =>
    rw [List.cons_append, extR, if_neg (by have := h r (List.mem_cons_self ..); omega), ih (fun s hs => h s (List.mem_cons_of_mem _ hs))]
    rfl
theorem rowsOf_on (T : Nat → Bool) (n : Nat) (ht : T n = true) : rowsOf T (n + 1) = rowsOf T n := by
  unfold rowsOf
  rw [rows_more_on T n (n + 1) 0 (by omega) ht, rowsFrom_fuel T n (n + 1) n 0 (by omega) (by omega)]
theorem rowsOf_off (T : Nat → Bool) (n : Nat) (ht : T n = false) : rowsOf T (n + 1) = extR n (rowsOf T n) := by
  unfold rowsOf
  rw [rows_more_off T n (n + 1) 0 (by omega) (by omega) ht, rowsFrom_fuel T n (n + 1) n 0 (by omega) (by omega)]
/-- Rows of the first pages: those that end ahead of the last page, and maybe one that ends there, with so many pages. -/
inductive Tail (T : Nat → Bool) (n : Nat) : Nat → List (Nat × Nat) → Prop
  | shut (h : ∀ r ∈ rowsOf T n, r.1 + r.2 < n) : Tail T n 0 (rowsOf T n)
  | still (L0 : List (Nat × Nat)) (a m : Nat) (h : ∀ r ∈ L0, r.1 + r.2 < a) (ha : a + (m + 1) = n) (hr : rowsOf T n = L0 ++ [(a, m + 1)]) : Tail T n (m + 1) (L0 ++ [(a, m + 1)])
theorem Tail.nil (T : Nat → Bool) : Tail T 0 0 [] := .shut (fun r hr => by simp [rowsOf, rowsFrom] at hr)
theorem Tail.rows {T : Nat → Bool} {n m : Nat} {L : List (Nat × Nat)} (h : Tail T n m L) : L = rowsOf T n := by
  cases h with
  | shut h => rfl
  | still L0 a m h ha hr => exact hr.symm
theorem Tail.on {T : Nat → Bool} {n m : Nat} {L : List (Nat × Nat)} (h : Tail T n m L) (ht : T n = true) : Tail T (n + 1) 0 L := by
  have e := h.rows
  rw [e, ← rowsOf_on T n ht]
  refine .shut (fun r hr => ?_)
  rw [rowsOf_on T n ht, ← e] at hr
  cases h with
  | shut h => have := h r hr; omega
  | still L0 a m h ha hr2 =>
    rcases List.mem_append.1 hr with h1 | h1
    · have := h r h1; omega
    · simp at h1; subst h1; simp only; omega
theorem Tail.first {T : Nat → Bool} {n : Nat} {L : List (Nat × Nat)} (h : Tail T n 0 L) (ht : T n = false) : Tail T (n + 1) 1 (L ++ [(n, 1)]) := by
  cases h with
  | shut h => exact .still _ n 0 h rfl (by rw [rowsOf_off T n ht, extR_far h])
theorem Tail.more {T : Nat → Bool} {n m : Nat} {L : List (Nat × Nat)} (h : Tail T n m L) (hm : 0 < m) (ht : T n = false) : ∃ L0 a, L = L0 ++ [(a, m)] ∧ Tail T (n + 1) (m + 1) (L0 ++ [(a, m + 1)]) := by
  cases h with
  | shut h => omega
  | still L0 a m h ha hr =>
    refine ⟨L0, a, rfl, .still L0 a (m + 1) h (by omega) ?_⟩
    rw [rowsOf_off T n ht, hr, extR_last (fun r hr => by have := h r hr; omega) ha]
theorem Tail.len {T : Nat → Bool} {n m : Nat} {L : List (Nat × Nat)} (h : Tail T n m L) : L.length ≤ n := by
  rw [h.rows]
  exact rows_len T n n 0
end Go.Proofs.Ytagplafbdmjagaa.A
