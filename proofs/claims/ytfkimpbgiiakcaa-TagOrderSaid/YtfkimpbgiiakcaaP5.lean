/- The tags' numbers: products, sums, powers; what joined tags are. -/
import Derived.Test.YtfkimpbgiiakcaaP1
namespace Go.Proofs.Ytfkimpbgiiakcaa.A
set_option linter.unusedVariables false
theorem mod_of {x y : Int} (k : Int) (h : x - y = 1048573 * k) : x % 1048573 = y % 1048573 := by omega
theorem mod_split (x : Int) : ∃ q, x = 1048573 * q + x % 1048573 := ⟨x / 1048573, by omega⟩
def red (a : Int × Int) : Int × Int := (a.1 % 1048573, a.2 % 1048573)
def cm (a b : Int × Int) : Int × Int := (a.1 * b.1 - a.2 * b.2, a.1 * b.2 + a.2 * b.1)
def ca (a b : Int × Int) : Int × Int := (a.1 + b.1, a.2 + b.2)
theorem cTimes_red (a b : Int × Int) : cTimes a b = red (cm a b) := rfl
theorem cPlus_red (a b : Int × Int) : cPlus a b = red (ca a b) := rfl
theorem red_in {a : Int × Int} (h : InP a) : red a = a := by
  unfold InP at h
  unfold red
  rw [Int.emod_eq_of_lt h.1.1 h.1.2, Int.emod_eq_of_lt h.2.1 h.2.2]
theorem red_cm_left (a b : Int × Int) : red (cm (red a) b) = red (cm a b) := by
  obtain ⟨a1, a2⟩ := a
  obtain ⟨b1, b2⟩ := b
  obtain ⟨q1, e1⟩ := mod_split a1
  obtain ⟨q2, e2⟩ := mod_split a2
  unfold red cm
  simp only [Prod.mk.injEq]
  generalize a1 % 1048573 = r1 at *
  generalize a2 % 1048573 = r2 at *
  constructor
  · exact mod_of (q2 * b2 - q1 * b1) (by rw [e1, e2]; grind)
  · exact mod_of (-(q1 * b2) - q2 * b1) (by rw [e1, e2]; grind)
theorem cm_comm (a b : Int × Int) : cm a b = cm b a := by
  unfold cm
  simp only [Prod.mk.injEq]
  constructor <;> grind
theorem red_cm_right (a b : Int × Int) : red (cm a (red b)) = red (cm a b) := by
  rw [cm_comm, red_cm_left, cm_comm]
theorem red_ca_left (a b : Int × Int) : red (ca (red a) b) = red (ca a b) := by
  unfold red ca
  simp only [Prod.mk.injEq]
  constructor <;> omega
theorem red_ca_right (a b : Int × Int) : red (ca a (red b)) = red (ca a b) := by
  unfold red ca
  simp only [Prod.mk.injEq]
  constructor <;> omega
theorem cm_assoc (a b c : Int × Int) : cm (cm a b) c = cm a (cm b c) := by
  unfold cm
  simp only [Prod.mk.injEq]
  constructor <;> grind
theorem cm_ca (a b c : Int × Int) : cm (ca a b) c = ca (cm a c) (cm b c) := by
  unfold cm ca
  simp only [Prod.mk.injEq]
  constructor <;> grind
theorem ca_assoc (a b c : Int × Int) : ca (ca a b) c = ca a (ca b c) := by
  unfold ca
  simp only [Prod.mk.injEq]
  constructor <;> omega
theorem cT_assoc (a b c : Int × Int) : cTimes (cTimes a b) c = cTimes a (cTimes b c) := by
  simp only [cTimes_red]
  rw [red_cm_left, red_cm_right, cm_assoc]
theorem cT_comm (a b : Int × Int) : cTimes a b = cTimes b a := by
  simp only [cTimes_red]
  rw [cm_comm]
theorem cT_plus (a b c : Int × Int) : cTimes (cPlus a b) c = cPlus (cTimes a c) (cTimes b c) := by
  simp only [cTimes_red, cPlus_red]
  rw [red_cm_left, red_ca_left, red_ca_right, cm_ca]
theorem cP_assoc (a b c : Int × Int) : cPlus (cPlus a b) c = cPlus a (cPlus b c) := by
  simp only [cPlus_red]
  rw [red_ca_left, red_ca_right, ca_assoc]
theorem cT_one {a : Int × Int} (h : InP a) : cTimes a (1, 0) = a := by
  rw [cTimes_red]
  have e : cm a (1, 0) = a := by
    obtain ⟨x, y⟩ := a
    unfold cm
    simp only [Prod.mk.injEq]
    constructor <;> omega
  rw [e, red_in h]
theorem cP_zero {a : Int × Int} (h : InP a) : cPlus a (0, 0) = a := by
  rw [cPlus_red]
  have e : ca a (0, 0) = a := by
    obtain ⟨x, y⟩ := a
    unfold ca
    simp only [Prod.mk.injEq]
    constructor <;> omega
  rw [e, red_in h]
/-! ### powers -/
def cPow (b : Int × Int) : Nat → Int × Int
  | 0 => (1, 0)
  | n + 1 => cTimes (cPow b n) b
theorem one_in : InP (1, 0) := by unfold InP; decide
theorem cPow_in (b : Int × Int) (n : Nat) : InP (cPow b n) := by
  cases n with
  | zero => exact one_in
  | succ n => exact cTimes_in _ _
theorem cPow_add (b : Int × Int) (n m : Nat) : cPow b (n + m) = cTimes (cPow b n) (cPow b m) := by
  induction m with
  | zero => rw [Nat.add_zero]; exact (cT_one (cPow_in b n)).symm
  | succ m ih =>
    show cTimes (cPow b (n + m)) b = cTimes (cPow b n) (cTimes (cPow b m) b)
    rw [ih, cT_assoc]
theorem cPow_sq (b : Int × Int) (n : Nat) : cPow (cTimes b b) n = cPow b (2 * n) := by
  induction n with
  | zero => rfl
  | succ n ih =>
    show cTimes (cPow (cTimes b b) n) (cTimes b b) = cTimes (cTimes (cPow b (2 * n)) b) b
    rw [ih, cT_assoc]
theorem powGo_is (n : Nat) : ∀ p b, InP p → powGo n p b = cTimes p (cPow b n) := by
  induction n using Nat.strongRecOn with
  | _ n ih =>
    intro p b hp
    rw [powGo]
    by_cases h : n = 0
    · subst h
      rw [if_pos rfl]
      exact (cT_one hp).symm
    · rw [if_neg h]
      by_cases ho : n % 2 = 1
      · rw [if_pos ho, ih (n / 2) (by omega) _ _ (cTimes_in _ _), cPow_sq, cT_assoc]
        have e : n = 1 + 2 * (n / 2) := by omega
        have e2 : cPow b n = cTimes (cPow b 1) (cPow b (2 * (n / 2))) := by rw [← cPow_add, ← e]
        have e3 : cPow b 1 = cTimes b (1, 0) := by rw [cT_comm]; rfl
        rw [e2, e3, cT_assoc, cT_comm (1, 0), cT_one (cPow_in _ _)]
      · rw [if_neg ho, ih (n / 2) (by omega) _ _ hp, cPow_sq]
        have e : n = 2 * (n / 2) := by omega
        rw [← e]
theorem powOf_is (n : Nat) : powOf n = cPow (3, 2) n := by
  unfold powOf
  rw [powGo_is n _ _ one_in, cT_comm, cT_one (cPow_in _ _)]
theorem powOf_add (n m : Nat) : powOf (n + m) = cTimes (powOf n) (powOf m) := by
  rw [powOf_is, powOf_is, powOf_is, cPow_add]
/-! ### joined tags -/
def byteC (c : Int) : Int × Int := (c + 1, 256 - c)
theorem tagStep_is (t : Int × Int) (c : Int) : tagStep t c = cPlus (cTimes t (3, 2)) (byteC c) := rfl
theorem tagOf_in (l : List Int) : InP (tagOf l) := tagOf_range l
theorem snoc_rec {P : List Int → Prop} (h0 : P []) (h1 : ∀ l c, P l → P (l ++ [c])) (l : List Int) : P l := by
  have h : ∀ r : List Int, P r.reverse := by
    intro r
    induction r with
    | nil => exact h0
    | cons c r ih => rw [List.reverse_cons]; exact h1 _ _ ih
  have h2 := h l.reverse
  rwa [List.reverse_reverse] at h2
theorem tagOf_append (a b : List Int) : tagOf (a ++ b) = joinOf (tagOf a) (tagOf b) b.length := by
  unfold joinOf
  rw [powOf_is]
  refine snoc_rec (P := fun b => tagOf (a ++ b) = cPlus (cTimes (tagOf a) (cPow (3, 2) b.length)) (tagOf b)) ?_ ?_ b
  · rw [List.append_nil]
    show tagOf a = cPlus (cTimes (tagOf a) (1, 0)) (0, 0)
    rw [cT_one (tagOf_in a), cP_zero (tagOf_in a)]
  · intro l c ih
    rw [← List.append_assoc, tagOf_snoc, tagOf_snoc, ih, tagStep_is, tagStep_is, List.length_append]
    show cPlus (cTimes (cPlus (cTimes (tagOf a) (cPow (3, 2) l.length)) (tagOf l)) (3, 2)) (byteC c) = cPlus (cTimes (tagOf a) (cTimes (cPow (3, 2) l.length) (3, 2))) (cPlus (cTimes (tagOf l) (3, 2)) (byteC c))
    rw [cT_plus, cP_assoc, cT_assoc]
theorem join_join (a b c : Int × Int) (n m : Nat) : joinOf (joinOf a b n) c m = joinOf a (joinOf b c m) (n + m) := by
  unfold joinOf
  rw [powOf_add, cT_plus, cP_assoc, cT_assoc]
theorem join_nothing {a : Int × Int} (h : InP a) : joinOf a (0, 0) 0 = a := by
  unfold joinOf
  have e : powOf 0 = (1, 0) := by rw [powOf_is]; rfl
  rw [e, cT_one h, cP_zero h]
end Go.Proofs.Ytfkimpbgiiakcaa.A
