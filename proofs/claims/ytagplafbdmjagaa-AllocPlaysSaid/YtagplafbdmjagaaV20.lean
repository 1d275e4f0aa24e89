/- The first row that is long enough, and how many pages all rows have. -/
import Derived.Test.YtagplafbdmjagaaV19
namespace Go.Proofs.Ytagplafbdmjagaa.A
set_option linter.unusedVariables false
/-- Where the first row of so many begins; -1: there is none. -/
def wantOf (k : Nat) : List (Nat × Nat) → Int
  | [] => -1
  | r :: l => if k ≤ r.2 then (r.1 : Int) else wantOf k l
/-- How many pages rows have. -/
def sumOf : List (Nat × Nat) → Nat
  | [] => 0
  | r :: l => r.2 + sumOf l
theorem rows_want (T : Nat → Bool) (n k f i : Nat) (hk : 1 ≤ k) (hf : n ≤ f + i) :
    (∃ x, i ≤ x ∧ RowAt T n x k ∧ (∀ y, i ≤ y → y < x → ¬ RowAt T n y k) ∧ wantOf k (rowsFrom T n f i) = (x : Int)) ∨ ((∀ y, i ≤ y → ¬ RowAt T n y k) ∧ wantOf k (rowsFrom T n f i) = -1) := by
  induction f generalizing i with
  | zero =>
    exact Or.inr ⟨fun y hy h => by have := h.1; omega, rfl⟩
  | succ f ih =>
    rw [rowsFrom]
    by_cases g1 : i < n
    · rw [if_pos g1]
      by_cases g2 : 0 < freeFrom T i (n - i)
      · rw [if_pos g2, wantOf]
        by_cases g3 : k ≤ freeFrom T i (n - i)
        · rw [if_pos g3]
          exact Or.inl ⟨i, Nat.le_refl _, rowAt_free (by omega) g3, fun y h1 h2 => by omega, rfl⟩
        · rw [if_neg g3]
          have hn := rowAt_not g1 hk (show freeFrom T i (n - i) < k by omega)
          generalize freeFrom T i (n - i) = m at *
          rcases ih (i + m + 1) (by omega) with ⟨x, h1, h2, h3, h4⟩ | ⟨h1, h2⟩
          · refine Or.inl ⟨x, by omega, h2, fun y a b => ?_, h4⟩
            by_cases g4 : y < i + (m + 1)
            · exact hn y a g4
            · exact h3 y (by omega) b
          · refine Or.inr ⟨fun y a => ?_, h2⟩
            by_cases g4 : y < i + (m + 1)
            · exact hn y a g4
            · exact h1 y (by omega)
      · rw [if_neg g2]
        have hn := rowAt_not g1 hk (show freeFrom T i (n - i) < k by omega)
        generalize freeFrom T i (n - i) = m at *
        rcases ih (i + 1) (by omega) with ⟨x, h1, h2, h3, h4⟩ | ⟨h1, h2⟩
        · refine Or.inl ⟨x, by omega, h2, fun y a b => ?_, h4⟩
          by_cases g4 : y < i + 1
          · exact hn y a (by omega)
          · exact h3 y (by omega) b
        · refine Or.inr ⟨fun y a => ?_, h2⟩
          by_cases g4 : y < i + 1
          · exact hn y a (by omega)
          · exact h1 y (by omega)
    · rw [if_neg g1]
      exact Or.inr ⟨fun y hy h => by have := h.1; omega, rfl⟩
theorem cnt_free (T : Nat → Bool) (i m : Nat) (h : ∀ j, i ≤ j → j < i + m → T j = false) : cnt T (i + m) = cnt T i := by
  induction m with
  | zero => rfl
  | succ m ih =>
    rw [← Nat.add_assoc, cnt, ih (fun j a b => h j a (by omega)), h (i + m) (by omega) (by omega)]
    rfl
theorem rows_sum (T : Nat → Bool) (n f i : Nat) (hf : n ≤ f + i) (hi : i ≤ n) : sumOf (rowsFrom T n f i) + cnt T n = n - i + cnt T i := by
  induction f generalizing i with
  | zero =>
    obtain rfl : i = n := by omega
    simp [rowsFrom, sumOf]
  | succ f ih =>
    rw [rowsFrom]
    by_cases g1 : i < n
    · rw [if_pos g1]
      have hle := freeFrom_le T i (n - i)
      have hfr := cnt_free T i (freeFrom T i (n - i)) (fun j a b => freeFrom_free T i (n - i) j a b)
      have hen := freeFrom_end T i (n - i)
      generalize freeFrom T i (n - i) = m at *
      by_cases g2 : 0 < m
      · rw [if_pos g2, sumOf]
        by_cases g3 : m < n - i
        · have ht := hen g3
          have h1 := ih (i + m + 1) (by omega) (by omega)
          rw [cnt, ht] at h1
          simp at h1 ⊢
          omega
        · obtain rfl : n = i + m := by omega
          have h0 : rowsFrom T (i + m) f (i + m + 1) = [] := by rw [rowsFrom_fuel T (i + m) f 0 _ (by omega) (by omega), rowsFrom]
          rw [h0]
          simp [sumOf]
          omega
      · obtain rfl : m = 0 := by omega
        rw [if_neg g2]
        have ht := hen (by omega)
        have h1 := ih (i + 1) (by omega) (by omega)
        rw [Nat.add_zero] at ht
        rw [cnt, ht] at h1
        simp at h1
        omega
    · rw [if_neg g1]
      obtain rfl : i = n := by omega
      simp [sumOf]
theorem drop_at (L : List (Nat × Nat)) (j : Nat) (hj : j < L.length) : L.drop j = L.getD j (0, 0) :: L.drop (j + 1) := by
  rw [List.getD_eq_getElem?_getD, List.getElem?_eq_getElem hj]
  exact List.drop_eq_getElem_cons hj
theorem rows_cell {T : Nat → Bool} {n f i : Nat} : ∀ r ∈ rowsFrom T n f i, r.1 < n ∧ r.2 ≤ n := by
  induction f generalizing i with
  | zero => intro r hr; simp [rowsFrom] at hr
  | succ f ih =>
    intro r hr
    rw [rowsFrom] at hr
    split at hr
    · rename_i h1
      split at hr
      · rcases List.mem_cons.1 hr with rfl | h
        · have := freeFrom_le T i (n - i)
          exact ⟨h1, by simp only; omega⟩
        · exact ih r h
      · exact ih r hr
    · simp at hr
theorem sumOf_drop (L : List (Nat × Nat)) (j : Nat) : sumOf (L.drop j) ≤ sumOf L := by
  induction L generalizing j with
  | nil => simp
  | cons r l ih =>
    cases j with
    | zero => simp
    | succ j => have := ih j; rw [List.drop_succ_cons, sumOf]; omega
end Go.Proofs.Ytagplafbdmjagaa.A
