/- How two keys stand, by the program. -/
import Derived.Test.YthcfkilofgfgpaaM2
import Derived.Test.YthcfkilofgfgpaaAx3
namespace Go.Proofs.Ythcfkilofgfgpaa.A
open Go.RowKit Go.Proofs.YthcfkilofgfgpaaW.PrintWords Go.Proofs.YthcfkilofgfgpaaW.PrintLast Go.Proofs.YthcfkilofgfgpaaW.PrintMore
set_option linter.unusedVariables false
set_option linter.unusedSimpArgs false
/-! ### lists of numbers, one ahead of another -/
def lessI : List Int → List Int → Bool
  | _, [] => false
  | [], _ :: _ => true
  | a :: x, b :: y => decide (a < b) || (decide (a = b) && lessI x y)
theorem less_irr (a : List Int) : lessI a a = false := by
  induction a with
  | nil => rfl
  | cons c a ih => simp [lessI, ih]
theorem less_asym : ∀ (a b : List Int), lessI a b = true → lessI b a = false
  | _, [], h => by simp [lessI] at h
  | [], _ :: _, _ => rfl
  | a :: x, b :: y, h => by
    simp only [lessI, Bool.or_eq_true, Bool.and_eq_true, decide_eq_true_eq] at h
    simp only [lessI, Bool.or_eq_false_iff, Bool.and_eq_false_iff, decide_eq_false_iff_not]
    rcases h with h | ⟨h1, h2⟩
    · exact ⟨by omega, .inl (by omega)⟩
    · exact ⟨by omega, .inr (less_asym x y h2)⟩
theorem less_tri : ∀ (a b : List Int), lessI a b = false → a ≠ b → lessI b a = true
  | [], [], _, h => absurd rfl h
  | [], _ :: _, h, _ => by simp [lessI] at h
  | _ :: _, [], _, _ => rfl
  | a :: x, b :: y, h, hne => by
    simp only [lessI, Bool.or_eq_false_iff, Bool.and_eq_false_iff, decide_eq_false_iff_not] at h
    simp only [lessI, Bool.or_eq_true, Bool.and_eq_true, decide_eq_true_eq]
    obtain ⟨h1, h2⟩ := h
    by_cases e : b < a
    · exact .inl e
    · have e2 : a = b := by omega
      subst e2
      rcases h2 with h2 | h2
      · exact absurd rfl h2
      · exact .inr ⟨rfl, less_tri x y h2 (fun e3 => hne (by rw [e3]))⟩
theorem less_bytes_l : ∀ (a b : List UInt8), Op.bytesLess a b = lessI (a.map fun c => (c.toNat : Int)) (b.map fun c => (c.toNat : Int))
  | [], [] => rfl
  | _ :: _, [] => rfl
  | [], _ :: _ => rfl
  | a :: x, b :: y => by
    simp only [Op.bytesLess, List.map_cons, lessI, less_bytes_l x y]
    have e1 : (decide (a < b)) = decide ((a.toNat : Int) < (b.toNat : Int)) := by
      rw [Bool.eq_iff_iff]
      simp only [decide_eq_true_eq, UInt8.lt_iff_toNat_lt]
      omega
    have e2 : (a == b) = decide ((a.toNat : Int) = (b.toNat : Int)) := by
      rw [Bool.eq_iff_iff]
      simp only [beq_iff_eq, decide_eq_true_eq]
      constructor
      · rintro rfl; rfl
      · intro h
        exact UInt8.toNat_inj.1 (by omega)
    rw [e1, e2]
theorem less_bytes (a b : ByteArray) : Op.bytesLess a.toList b.toList = lessI (bytesOf a) (bytesOf b) := by
  rw [less_bytes_l, ByteArray.toList_eq, ByteArray.toList_eq]
  rfl
theorem bytes_inj {a b : ByteArray} (h : bytesOf a = bytesOf b) : a = b := by rw [← nums_of_bytes a, h, nums_of_bytes b]
/-! ### how two parts stand -/
def ordP (p q : S46) : Int := if cmpI p.f0 q.f0 = 0 then (if p.f0 = 2 then cmpI p.f1 q.f1 else if p.f0 = 3 then cmpI q.f1 p.f1 else cmpS p.f2 q.f2) else cmpI p.f0 q.f0
theorem order_is (p q : S46) : tuple_order.f p.f0 p.f1 p.f2 q.f0 q.f1 q.f2 = some (ordP p q) := by
  unfold tuple_order.f ordP
  by_cases h : cmpI p.f0 q.f0 = 0
  · rw [if_pos h, if_pos h]
    by_cases h2 : p.f0 = 2
    · rw [if_pos h2, if_pos h2]
    · rw [if_neg h2, if_neg h2]
      by_cases h3 : p.f0 = 3
      · rw [if_pos h3, if_pos h3]
      · rw [if_neg h3, if_neg h3]
  · rw [if_neg h, if_neg h]
theorem cmpI_cases (a b : Int) : (a < b ∧ cmpI a b = -1) ∨ (a = b ∧ cmpI a b = 0) ∨ (b < a ∧ cmpI a b = 1) := by
  unfold cmpI
  rcases Int.lt_trichotomy a b with h | h | h
  · exact .inl ⟨h, if_pos h⟩
  · exact .inr (.inl ⟨h, by rw [if_neg (by omega), if_neg (by omega)]⟩)
  · exact .inr (.inr ⟨h, by rw [if_neg (by omega), if_pos h]⟩)
theorem cmpS_cases (a b : ByteArray) : (lessI (bytesOf a) (bytesOf b) = true ∧ cmpS a b = -1) ∨ (a = b ∧ cmpS a b = 0) ∨ (lessI (bytesOf b) (bytesOf a) = true ∧ cmpS a b = 1) := by
  unfold cmpS
  rw [less_bytes]
  by_cases h : lessI (bytesOf a) (bytesOf b) = true
  · exact .inl ⟨h, if_pos h⟩
  · rw [if_neg h]
    by_cases e : a = b
    · subst e
      exact .inr (.inl ⟨rfl, if_pos (by simp)⟩)
    · refine .inr (.inr ⟨less_tri _ _ (by simpa using h) (fun h2 => e (bytes_inj h2)), if_neg ?_⟩)
      rw [beq_iff_eq]
      exact fun h2 => e ((toList_iff a b).1 h2)
def cmpL : List S46 → List S46 → Int
  | [], [] => 0
  | [], _ :: _ => -1
  | _ :: _, [] => 1
  | p :: a, q :: b => if ordP p q = 0 then cmpL a b else ordP p q
theorem cmpL_drop_nil {a b : List S46} {i : Nat} (h : ¬ (i < a.length ∧ i < b.length)) (hi : i ≤ a.length) (hj : i ≤ b.length) : cmpL (a.drop i) (b.drop i) = cmpI (a.length : Int) (b.length : Int) := by
  by_cases ha : i < a.length
  · have hb : ¬ i < b.length := fun hb => h ⟨ha, hb⟩
    rw [List.drop_of_length_le (l := b) (by omega), List.drop_eq_getElem_cons ha]
    rcases cmpI_cases (a.length : Int) (b.length : Int) with ⟨h1, _⟩ | ⟨h1, _⟩ | ⟨_, e⟩
    · omega
    · omega
    · rw [e]; rfl
  · rw [List.drop_of_length_le (l := a) (by omega)]
    by_cases hb : i < b.length
    · rw [List.drop_eq_getElem_cons hb]
      rcases cmpI_cases (a.length : Int) (b.length : Int) with ⟨_, e⟩ | ⟨h1, _⟩ | ⟨h1, _⟩
      · rw [e]; rfl
      · omega
      · omega
    · rw [List.drop_of_length_le (l := b) (by omega)]
      rcases cmpI_cases (a.length : Int) (b.length : Int) with ⟨h1, _⟩ | ⟨_, e⟩ | ⟨h1, _⟩
      · omega
      · rw [e]; rfl
      · omega
theorem cmpL_drop_cons {a b : List S46} {i : Nat} (ha : i < a.length) (hb : i < b.length) : cmpL (a.drop i) (b.drop i) = if ordP a[i] b[i] = 0 then cmpL (a.drop (i + 1)) (b.drop (i + 1)) else ordP a[i] b[i] := by
  rw [List.drop_eq_getElem_cons ha, List.drop_eq_getElem_cons hb]
  rfl
theorem cmp_int (a b : Int) : cmp_Compare_int.f a b = some (cmpI a b) := by
  unfold cmp_Compare_int.f cmp_isNaN_int.f cmpI
  simp only [bne_self_eq_false, Option.bind_some]
  rw [if_neg (by decide), if_neg (by decide)]
  split
  · rfl
  · split <;> rfl
theorem compare_loop (a b : List S46) (ha : PartsOk a) (hb : PartsOk b) : ∀ (d i : Nat), i + d = a.length → i ≤ b.length → Ev (fun k => tuple_Compare.l0 k a b (i : Int)) (cmpL (a.drop i) (b.drop i), 0) := by
  have hn := ha.len
  intro d
  have over : ∀ i : Nat, i ≤ a.length → i ≤ b.length → ¬ (i < a.length ∧ i < b.length) → Ev (fun k => tuple_Compare.l0 k a b (i : Int)) (cmpL (a.drop i) (b.drop i), 0) := by
    intro i hi hj h
    rw [cmpL_drop_nil h hi hj]
    refine Ev.step (f := fun k => tuple_Compare.j1 k a b (i : Int) false) (fun k => ?_) ?_
    · rw [tuple_Compare.l0]
      by_cases ha : (i : Int) < (a.length : Int)
      · rw [if_pos ha, decide_eq_false (by omega)]
      · rw [if_neg ha]
    · exact Ev.step (f := fun _ => some (cmpI (a.length : Int) (b.length : Int), 0)) (fun k => by rw [tuple_Compare.j1, if_neg (by decide), cmp_int]; rfl) (Ev.now _)
  induction d with
  | zero =>
    intro i hi hj
    exact over i (by omega) hj (by omega)
  | succ d ih =>
    intro i hi hj
    have hlt : i < a.length := by omega
    by_cases hjl : i < b.length
    · rw [cmpL_drop_cons hlt hjl]
      refine Ev.step (f := fun k => tuple_Compare.j1 k a b (i : Int) true) (fun k => by rw [tuple_Compare.l0, if_pos (by omega), decide_eq_true (by omega)]) ?_
      have head : ∀ k, tuple_Compare.j1 (k + 1) a b (i : Int) true = if ordP a[i] b[i] = 0 then (tuple_Compare.l0 k a b ((i + 1 : Nat) : Int)) else (some (ordP a[i] b[i], 0)) := fun k => by
        rw [tuple_Compare.j1, if_pos rfl, if_pos (by omega), if_pos (by omega), if_pos (by omega), rd_at a i hlt, rd_at b i hjl, order_is, wrap_up i a.length hlt (by omega)]
        rfl
      by_cases hz : ordP a[i] b[i] = 0
      · rw [if_pos hz]
        exact Ev.step (f := fun k => tuple_Compare.l0 k a b ((i + 1 : Nat) : Int)) (fun k => by rw [head, if_pos hz]) (ih (i + 1) (by omega) (by omega))
      · rw [if_neg hz]
        exact Ev.step (f := fun _ => some (ordP a[i] b[i], 0)) (fun k => by rw [head, if_neg hz]) (Ev.now _)
    · exact over i (by omega) hj (fun h => hjl h.2)
/-- What Compare tells. -/
noncomputable def Cmp (a b : List S46) : Int × Int := if (Enc a).2 = 0 then (if (Enc b).2 = 0 then (cmpL a b, 0) else (0, (Enc b).2)) else (0, (Enc a).2)
theorem compare_ev (a b : List S46) (ha : PartsOk a) (hb : PartsOk b) : Ev (fun k => tuple_Compare.f k a b) (Cmp a b) := by
  unfold Cmp
  refine Ev.bind (check_ev a ha) ?_
  by_cases h1 : (Enc a).2 = 0
  · rw [if_pos h1]
    refine Ev.congr (f := fun k => (tuple_Check.f k b).bind fun t118 => (if t118 = 0 then (tuple_Compare.l0 k a b 0) else (some (0, t118)))) (fun k => by rw [if_pos h1]) ?_
    refine Ev.bind (check_ev b hb) ?_
    by_cases h2 : (Enc b).2 = 0
    · rw [if_pos h2]
      exact Ev.congr (f := fun k => tuple_Compare.l0 k a b ((0 : Nat) : Int)) (fun k => by rw [if_pos h2]; rfl) (compare_loop a b ha hb a.length 0 (by omega) (by omega))
    · rw [if_neg h2]
      exact Ev.congr (f := fun _ => some (0, (Enc b).2)) (fun k => by rw [if_neg h2]) (Ev.now _)
  · rw [if_neg h1]
    exact Ev.congr (f := fun _ => some (0, (Enc a).2)) (fun k => by rw [if_neg h1]) (Ev.now _)
theorem cmpI_swap (a b : Int) : cmpI b a = - cmpI a b := by
  rcases cmpI_cases a b with ⟨h, e⟩ | ⟨h, e⟩ | ⟨h, e⟩ <;> rcases cmpI_cases b a with ⟨h', e'⟩ | ⟨h', e'⟩ | ⟨h', e'⟩ <;> first | omega | (rw [e, e']; rfl)
theorem cmpS_swap (a b : ByteArray) : cmpS b a = - cmpS a b := by
  rcases cmpS_cases a b with ⟨h, e⟩ | ⟨h, e⟩ | ⟨h, e⟩ <;> rcases cmpS_cases b a with ⟨h', e'⟩ | ⟨h', e'⟩ | ⟨h', e'⟩ <;> rw [e, e'] <;> first | rfl | (exfalso; first | (rw [less_asym _ _ h] at h'; cases h') | (subst h; rw [less_irr] at h'; cases h') | (subst h'; rw [less_irr] at h; cases h))
theorem ordP_swap (p q : S46) : ordP q p = - ordP p q := by
  unfold ordP
  rw [cmpI_swap p.f0 q.f0]
  rcases cmpI_cases p.f0 q.f0 with ⟨h, e⟩ | ⟨h, e⟩ | ⟨h, e⟩
  · rw [e]; rfl
  · rw [e, ← h, if_pos (by decide), if_pos rfl]
    split
    · exact cmpI_swap _ _
    split
    · exact cmpI_swap _ _
    · exact cmpS_swap _ _
  · rw [e]; rfl
theorem ordP_cases (p q : S46) : ordP p q = -1 ∨ ordP p q = 0 ∨ ordP p q = 1 := by
  unfold ordP
  split
  · split
    · rcases cmpI_cases p.f1 q.f1 with ⟨_, e⟩ | ⟨_, e⟩ | ⟨_, e⟩ <;> simp [e]
    split
    · rcases cmpI_cases q.f1 p.f1 with ⟨_, e⟩ | ⟨_, e⟩ | ⟨_, e⟩ <;> simp [e]
    · rcases cmpS_cases p.f2 q.f2 with ⟨_, e⟩ | ⟨_, e⟩ | ⟨_, e⟩ <;> simp [e]
  · rcases cmpI_cases p.f0 q.f0 with ⟨_, e⟩ | ⟨_, e⟩ | ⟨_, e⟩ <;> simp [e]
end Go.Proofs.Ythcfkilofgfgpaa.A
