/- The bytes of two keys stand as the keys do; a key whose bytes begin another key's bytes begins that key. -/
import Derived.Test.YthcfkilofgfgpaaM5
namespace Go.Proofs.Ythcfkilofgfgpaa.A
open Go.RowKit Go.Proofs.YthcfkilofgfgpaaW.PrintWords Go.Proofs.YthcfkilofgfgpaaW.PrintLast Go.Proofs.YthcfkilofgfgpaaW.PrintMore
set_option linter.unusedVariables false
set_option linter.unusedSimpArgs false
theorem less_same : ∀ (a x y : List Int), lessI (a ++ x) (a ++ y) = lessI x y
  | [], _, _ => rfl
  | c :: a, x, y => by simp [lessI, less_same a x y]
theorem less_here {a b : Int} (h : a < b) (x y : List Int) : lessI (a :: x) (b :: y) = true := by simp [lessI, h]
/-- What digits of 256 come to. -/
def valB : List Int → Int
  | [] => 0
  | c :: l => c * 256 ^ l.length + valB l
theorem valB_range : ∀ (l : List Int), (∀ x ∈ l, IsByte x) → 0 ≤ valB l ∧ valB l < 256 ^ l.length
  | [], _ => by simp [valB]
  | c :: l, h => by
    obtain ⟨h0, h1⟩ := valB_range l (fun x hx => h x (List.mem_cons_of_mem _ hx))
    obtain ⟨c0, c1⟩ := h c List.mem_cons_self
    have hp : (0 : Int) < 256 ^ l.length := Int.pow_pos (by decide)
    have e1 : (0 : Int) ≤ c * 256 ^ l.length := Int.mul_nonneg c0 (by omega)
    have e2 : c * 256 ^ l.length ≤ 255 * 256 ^ l.length := Int.mul_le_mul_of_nonneg_right c1 (by omega)
    simp only [valB, List.length_cons, Int.pow_succ]
    constructor
    · omega
    · omega
theorem less_val : ∀ (a b : List Int) (x y : List Int), a.length = b.length → (∀ z ∈ a, IsByte z) → (∀ z ∈ b, IsByte z) → valB a < valB b → lessI (a ++ x) (b ++ y) = true
  | [], [], _, _, _, _, _, h => by simp [valB] at h
  | [], _ :: _, _, _, hl, _, _, _ => by simp at hl
  | _ :: _, [], _, _, hl, _, _, _ => by simp at hl
  | c :: a, d :: b, x, y, hl, ha, hb, h => by
    have hl' : a.length = b.length := by simpa using hl
    obtain ⟨a0, a1⟩ := valB_range a (fun z hz => ha z (List.mem_cons_of_mem _ hz))
    obtain ⟨b0, b1⟩ := valB_range b (fun z hz => hb z (List.mem_cons_of_mem _ hz))
    simp only [valB] at h
    rw [hl'] at h a1
    have hp : (0 : Int) < 256 ^ b.length := Int.pow_pos (by decide)
    rcases Int.lt_trichotomy c d with e | e | e
    · exact less_here e _ _
    · subst e
      have : lessI (a ++ x) (b ++ y) = true := less_val a b x y hl' (fun z hz => ha z (List.mem_cons_of_mem _ hz)) (fun z hz => hb z (List.mem_cons_of_mem _ hz)) (by omega)
      simp [lessI, this]
    · exfalso
      have : (d + 1) * 256 ^ b.length ≤ c * 256 ^ b.length := Int.mul_le_mul_of_nonneg_right (by omega) (by omega)
      rw [Int.add_mul, Int.one_mul] at this
      omega
theorem valB_be (v : Int) (h0 : 0 ≤ v) (h1 : v < 18446744073709551616) : valB (be v) = v := by
  have := val_be v h0 h1
  simp only [val, be, List.foldl] at this
  simp only [valB, be, List.length_cons, List.length_nil, Int.pow_succ, Int.pow_zero]
  omega
theorem valB_neg : ∀ (l : List Int), valB (l.map neg) = 256 ^ l.length - 1 - valB l
  | [] => rfl
  | c :: l => by
    simp only [List.map_cons, valB, List.length_map, valB_neg l, List.length_cons, Int.pow_succ, neg, Int.sub_mul]
    omega
theorem less_num (m n : Int) (hm : -9223372036854775808 ≤ m) (hn : n ≤ 9223372036854775807) (h : m < n) (x y : List Int) : lessI (num8 m ++ x) (num8 n ++ y) = true := by
  refine less_val _ _ _ _ rfl (num8_bytes _) (num8_bytes _) ?_
  unfold num8
  rw [valB_be _ (by omega) (by omega), valB_be _ (by omega) (by omega)]
  omega
theorem less_num_neg (m n : Int) (hm : -9223372036854775808 ≤ m) (hn : n ≤ 9223372036854775807) (h : m < n) (x y : List Int) : lessI ((num8 n).map neg ++ x) ((num8 m).map neg ++ y) = true := by
  refine less_val _ _ _ _ rfl (neg_bytes (num8_bytes _)) (neg_bytes (num8_bytes _)) ?_
  rw [valB_neg, valB_neg]
  unfold num8
  rw [valB_be _ (by omega) (by omega), valB_be _ (by omega) (by omega)]
  show (256 : Int) ^ 8 - 1 - _ < 256 ^ 8 - 1 - _
  omega
theorem esc_c (c : Int) (l : List Int) : esc (c :: l) = esc1 c ++ esc l := by simp [esc]
theorem less_esc : ∀ (a b : List Int), (∀ z ∈ a, IsByte z) → (∀ z ∈ b, IsByte z) → lessI a b = true → ∀ x y, lessI (esc a ++ ([0, 1] ++ x)) (esc b ++ ([0, 1] ++ y)) = true
  | _, [], _, _, h, _, _ => by simp [lessI] at h
  | [], d :: b, _, hb, _, x, y => by
    obtain ⟨d0, d1⟩ := hb d List.mem_cons_self
    rw [esc_c]
    unfold esc1
    by_cases e : d = 0
    · rw [if_pos e]
      show lessI (0 :: 1 :: x) (0 :: 255 :: (esc b ++ ([0, 1] ++ y))) = true
      simp [lessI]
    · rw [if_neg e]
      exact less_here (by omega) _ _
  | c :: a, d :: b, ha, hb, h, x, y => by
    obtain ⟨c0, c1⟩ := ha c List.mem_cons_self
    obtain ⟨d0, d1⟩ := hb d List.mem_cons_self
    simp only [lessI, Bool.or_eq_true, Bool.and_eq_true, decide_eq_true_eq] at h
    rw [esc_c, esc_c, List.append_assoc, List.append_assoc]
    rcases h with h | ⟨e, h⟩
    · unfold esc1
      have e2 : ¬ d = 0 := by omega
      rw [if_neg e2]
      by_cases e1 : c = 0
      · rw [if_pos e1]
        exact less_here (by omega) _ _
      · rw [if_neg e1]
        exact less_here h _ _
    · subst e
      rw [less_same]
      exact less_esc a b (fun z hz => ha z (List.mem_cons_of_mem _ hz)) (fun z hz => hb z (List.mem_cons_of_mem _ hz)) h x y
theorem num_of (p : S46) (h : PartOk p) : -9223372036854775808 ≤ p.f1 ∧ p.f1 ≤ 9223372036854775807 := by
  simpa [Lit.wf, IntKind.min, IntKind.max, IntKind.bits, IntKind.signed] using h.num
/-- What begins the bytes of a part of a kind. -/
def mark (k : Int) : Int := if k = 2 then 3 else if k = 3 then 4 else 2
theorem encP_mark (p : S46) : ∃ t, encP p = mark p.f0 :: t := by
  unfold encP mark
  split
  · exact ⟨_, rfl⟩
  split
  · exact ⟨_, rfl⟩
  · exact ⟨_, rfl⟩
theorem ordP_less (p q : S46) (hp : PartOk p) (hq : PartOk q) (rp : Right p) (rq : Right q) (h : ordP p q = -1) (x y : List Int) : lessI (encP p ++ x) (encP q ++ y) = true := by
  have kp : p.f0 = 1 ∨ p.f0 = 2 ∨ p.f0 = 3 := by rcases rp with ⟨h, _⟩ | ⟨h | h, _⟩ <;> simp [h]
  have kq : q.f0 = 1 ∨ q.f0 = 2 ∨ q.f0 = 3 := by rcases rq with ⟨h, _⟩ | ⟨h | h, _⟩ <;> simp [h]
  have np := num_of p hp
  have nq := num_of q hq
  unfold ordP at h
  rcases cmpI_cases p.f0 q.f0 with ⟨h1, e⟩ | ⟨h1, e⟩ | ⟨h1, e⟩
  · obtain ⟨t, et⟩ := encP_mark p
    obtain ⟨u, eu⟩ := encP_mark q
    rw [et, eu]
    refine less_here ?_ _ _
    unfold mark
    rcases kp with k | k | k <;> rcases kq with k' | k' | k' <;> rw [k, k'] at h1 <;> rw [k, k'] <;> first | (exfalso; omega) | decide
  · rw [e, if_pos rfl] at h
    unfold encP
    rw [← h1]
    by_cases h2 : p.f0 = 2
    · rw [if_pos h2] at h
      rw [if_pos h2, if_pos h2]
      rcases cmpI_cases p.f1 q.f1 with ⟨h3, e3⟩ | ⟨h3, e3⟩ | ⟨h3, e3⟩
      · have := less_num p.f1 q.f1 np.1 nq.2 h3 x y
        simp [lessI, this]
      · rw [e3] at h; cases h
      · rw [e3] at h; cases h
    rw [if_neg h2] at h
    rw [if_neg h2, if_neg h2]
    by_cases h3 : p.f0 = 3
    · rw [if_pos h3] at h
      rw [if_pos h3, if_pos h3]
      rcases cmpI_cases q.f1 p.f1 with ⟨h4, e3⟩ | ⟨h4, e3⟩ | ⟨h4, e3⟩
      · have := less_num_neg q.f1 p.f1 nq.1 np.2 h4 x y
        simp only [List.cons_append, lessI, decide_true, Bool.true_and, this, Bool.or_true]
      · rw [e3] at h; cases h
      · rw [e3] at h; cases h
    rw [if_neg h3] at h
    rw [if_neg h3, if_neg h3]
    rcases cmpS_cases p.f2 q.f2 with ⟨h4, e3⟩ | ⟨h4, e3⟩ | ⟨h4, e3⟩
    · have := less_esc _ _ (bytes_are p.f2) (bytes_are q.f2) h4 x y
      simp only [List.cons_append, List.append_assoc, lessI, decide_true, Bool.true_and, Bool.or_eq_true]
      exact .inr (by simpa using this)
    · rw [e3] at h; cases h
    · rw [e3] at h; cases h
  · rw [e, if_neg (by decide)] at h
    exact absurd h (by decide)
theorem ordP_same (p q : S46) (rp : Right p) (rq : Right q) (h : ordP p q = 0) : p = q := by
  obtain ⟨p0, p1, p2⟩ := p
  obtain ⟨q0, q1, q2⟩ := q
  unfold ordP at h
  simp only at h
  have rp' : p0 = 1 ∧ p1 = 0 ∨ (p0 = 2 ∨ p0 = 3) ∧ p2 = ⟨#[]⟩ := rp
  have rq' : q0 = 1 ∧ q1 = 0 ∨ (q0 = 2 ∨ q0 = 3) ∧ q2 = ⟨#[]⟩ := rq
  rcases cmpI_cases p0 q0 with ⟨h1, e⟩ | ⟨h1, e⟩ | ⟨h1, e⟩
  · rw [e, if_neg (by decide)] at h; cases h
  · subst h1
    rw [e, if_pos rfl] at h
    rcases rp' with ⟨k, n⟩ | ⟨k | k, n⟩
    · subst k n
      rcases rq' with ⟨_, m⟩ | ⟨k' | k', _⟩
      · subst m
        rw [if_neg (by decide), if_neg (by decide)] at h
        rcases cmpS_cases p2 q2 with ⟨_, e3⟩ | ⟨h4, _⟩ | ⟨_, e3⟩
        · rw [e3] at h; cases h
        · rw [h4]
        · rw [e3] at h; cases h
      · omega
      · omega
    · subst k n
      rcases rq' with ⟨k', _⟩ | ⟨_, m⟩
      · omega
      · subst m
        rw [if_pos rfl] at h
        rcases cmpI_cases p1 q1 with ⟨_, e3⟩ | ⟨h4, _⟩ | ⟨_, e3⟩
        · rw [e3] at h; cases h
        · rw [h4]
        · rw [e3] at h; cases h
    · subst k n
      rcases rq' with ⟨k', _⟩ | ⟨_, m⟩
      · omega
      · subst m
        rw [if_neg (by decide), if_pos rfl] at h
        rcases cmpI_cases q1 p1 with ⟨_, e3⟩ | ⟨h4, _⟩ | ⟨_, e3⟩
        · rw [e3] at h; cases h
        · rw [h4]
        · rw [e3] at h; cases h
  · rw [e, if_neg (by decide)] at h; cases h
theorem ordP_self (p : S46) : ordP p p = 0 := by
  have := ordP_swap p p
  rcases ordP_cases p p with e | e | e <;> omega
theorem encP_cons (p : S46) (x : List Int) : ∃ c t, encP p ++ x = c :: t := by
  obtain ⟨t, e⟩ := encP_mark p
  exact ⟨mark p.f0, t ++ x, by rw [e]; rfl⟩
theorem cmpL_less : ∀ (a b : List S46), PartsOk a → PartsOk b → (∀ p ∈ a, Right p) → (∀ p ∈ b, Right p) →
    (cmpL a b = -1 ∧ lessI (encL a) (encL b) = true) ∨ (cmpL a b = 0 ∧ a = b) ∨ (cmpL a b = 1 ∧ lessI (encL b) (encL a) = true)
  | [], [], _, _, _, _ => .inr (.inl ⟨rfl, rfl⟩)
  | [], q :: b, _, _, _, _ => by
    obtain ⟨c, t, e⟩ := encP_cons q (encL b)
    refine .inl ⟨rfl, ?_⟩
    rw [encL_cons, e]
    rfl
  | p :: a, [], _, _, _, _ => by
    obtain ⟨c, t, e⟩ := encP_cons p (encL a)
    refine .inr (.inr ⟨rfl, ?_⟩)
    rw [encL_cons, e]
    rfl
  | p :: a, q :: b, ha, hb, ra, rb => by
    have hp := ha.each p List.mem_cons_self
    have hq := hb.each q List.mem_cons_self
    have rp := ra p List.mem_cons_self
    have rq := rb q List.mem_cons_self
    have ha' : PartsOk a := ⟨by have := ha.len; simp only [List.length_cons] at this; omega, fun x hx => ha.each x (List.mem_cons_of_mem _ hx)⟩
    have hb' : PartsOk b := ⟨by have := hb.len; simp only [List.length_cons] at this; omega, fun x hx => hb.each x (List.mem_cons_of_mem _ hx)⟩
    rw [encL_cons, encL_cons]
    simp only [cmpL]
    rcases ordP_cases p q with e | e | e
    · rw [e, if_neg (by decide)]
      exact .inl ⟨rfl, ordP_less p q hp hq rp rq e _ _⟩
    · have e2 := ordP_same p q rp rq e
      subst e2
      rw [e, if_pos rfl, less_same, less_same]
      rcases cmpL_less a b ha' hb' (fun x hx => ra x (List.mem_cons_of_mem _ hx)) (fun x hx => rb x (List.mem_cons_of_mem _ hx)) with h | ⟨h1, h2⟩ | h
      · exact .inl h
      · exact .inr (.inl ⟨h1, by rw [h2]⟩)
      · exact .inr (.inr h)
    · rw [e, if_neg (by decide)]
      have := ordP_swap p q
      exact .inr (.inr ⟨rfl, ordP_less q p hq hp rq rp (by omega) _ _⟩)
theorem encP_bytes (p : S46) : ∀ x ∈ encP p, IsByte x := by
  have hb : IsByte 2 ∧ IsByte 3 ∧ IsByte 4 ∧ IsByte 0 ∧ IsByte 1 ∧ IsByte 255 := by unfold IsByte; decide
  have he : ∀ l : List Int, (∀ z ∈ l, IsByte z) → ∀ x ∈ esc l, IsByte x := by
    intro l hl x hx
    unfold esc at hx
    obtain ⟨c, hc, hx⟩ := List.mem_flatMap.1 hx
    unfold esc1 at hx
    split at hx
    · simp only [List.mem_cons, List.not_mem_nil, or_false] at hx
      rcases hx with rfl | rfl
      · exact hb.2.2.2.1
      · exact hb.2.2.2.2.2
    · simp only [List.mem_cons, List.not_mem_nil, or_false] at hx
      subst hx
      exact hl _ hc
  intro x hx
  unfold encP at hx
  split at hx
  · rcases List.mem_cons.1 hx with rfl | hx
    · exact hb.2.1
    · exact num8_bytes _ x hx
  split at hx
  · rcases List.mem_cons.1 hx with rfl | hx
    · exact hb.2.2.1
    · exact neg_bytes (num8_bytes _) x hx
  · rcases List.mem_cons.1 hx with rfl | hx
    · exact hb.1
    · rcases List.mem_append.1 hx with hx | hx
      · exact he _ (bytes_are _) x hx
      · simp only [List.mem_cons, List.not_mem_nil, or_false] at hx
        rcases hx with rfl | rfl
        · exact hb.2.2.2.1
        · exact hb.2.2.2.2.1
theorem encL_bytes (l : List S46) : ∀ x ∈ encL l, IsByte x := by
  intro x hx
  unfold encL at hx
  obtain ⟨p, _, hx⟩ := List.mem_flatMap.1 hx
  exact encP_bytes p x hx
theorem encL_inj {a b : List S46} (ha : PartsOk a) (hb : PartsOk b) (ra : ∀ p ∈ a, Right p) (rb : ∀ p ∈ b, Right p) (h : encL a = encL b) : a = b := by
  rcases cmpL_less a b ha hb ra rb with ⟨_, h2⟩ | ⟨_, h2⟩ | ⟨_, h2⟩
  · rw [h, less_irr] at h2; cases h2
  · exact h2
  · rw [h, less_irr] at h2; cases h2
end Go.Proofs.Ythcfkilofgfgpaa.A
