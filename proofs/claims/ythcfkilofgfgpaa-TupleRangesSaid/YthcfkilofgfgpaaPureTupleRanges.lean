/- The bytes of all keys that a key begins, and no other key's, stand from its own on and ahead of Behind of them. -/
import Derived.Test.YthcfkilofgfgpaaM6
import Derived.Test.YthcfkilofgfgpaaM7
import Derived.Test.YthcfkilofgfgpaaAx9
namespace Go.Proofs.Ythcfkilofgfgpaa.A
open Go.RowKit Go.Proofs.YthcfkilofgfgpaaW.PrintWords Go.Proofs.YthcfkilofgfgpaaW.PrintLast Go.Proofs.YthcfkilofgfgpaaW.PrintMore
set_option linter.unusedVariables false
set_option linter.unusedSimpArgs false
theorem few_told (l : List S46) : ambrylaw02_few.f l = some (decide ((l.length : Int) ≤ 1000)) := rfl
theorem nums_append (a b : List Int) : strOfNums (a ++ b) = strOfNums a ++ strOfNums b := by
  apply ByteArray.ext
  simp [strOfNums]
open Classical in
theorem begins_ev (a b : List S46) (hn : a.length ≤ 4398046510976) : Ev (fun k => ambrylaw02_begins.f k a b) (decide (a <+: b)) := by
  by_cases hl : a.length ≤ b.length
  · refine Ev.congr (f := fun k => (ambryref02_Same.f k a (b.take a.length)).bind fun t => some t) (fun k => by unfold ambrylaw02_begins.f; rw [if_pos (by omega), if_pos (by omega)]; rfl) ?_
    refine Ev.bind (same_ev a _ hn) (ev_val (Ev.now _) ?_)
    rw [decide_eq_decide]
    exact List.prefix_iff_eq_take.symm
  · refine Ev.congr (f := fun _ => some false) (fun k => by unfold ambrylaw02_begins.f; rw [if_neg (by omega)]) (ev_val (Ev.now _) ?_)
    rw [eq_comm, decide_eq_false_iff_not]
    intro h
    exact hl h.length_le
theorem ranges_yes (a b : List S46) : Ev (fun k => ambrylaw02_TupleRanges.j0 k a b true) true :=
  Ev.step (f := fun k => (ambrylaw02_lives.f k).bind fun t => some t) (fun k => by rw [ambrylaw02_TupleRanges.j0, if_pos rfl]) lives_then
theorem ranges_bad (a b : List S46) (s t : ByteArray) : Ev (fun k => ambrylaw02_TupleRanges.j1 k a b s t true) true :=
  Ev.step (f := fun k => (ambrylaw02_lives.f k).bind fun t => some t) (fun k => by rw [ambrylaw02_TupleRanges.j1, if_pos rfl]) lives_then
/-- What stands from a list on, and ahead of it with 255 behind it, begins with it. -/
theorem within_prefix : ∀ (s t : List Int), (∀ z ∈ t, IsByte z) → lessI t s = false → lessI t (s ++ [255]) = true → s <+: t
  | [], _, _, _, _ => List.nil_prefix
  | c :: s, [], _, h, _ => by simp [lessI] at h
  | c :: s, d :: t, hb, h1, h2 => by
    simp only [lessI, Bool.or_eq_false_iff, Bool.and_eq_false_iff, decide_eq_false_iff_not] at h1
    simp only [List.cons_append, lessI, Bool.or_eq_true, Bool.and_eq_true, decide_eq_true_eq] at h2
    obtain ⟨h3, h4⟩ := h1
    rcases h2 with h2 | ⟨rfl, h2⟩
    · exact absurd h2 h3
    · rcases h4 with h4 | h4
      · exact absurd rfl h4
      · exact List.cons_prefix_cons.2 ⟨rfl, within_prefix s t (fun z hz => hb z (List.mem_cons_of_mem _ hz)) h4 h2⟩
theorem enc_prefix : ∀ (a b : List S46), PartsOk a → PartsOk b → (∀ p ∈ a, Right p) → (∀ p ∈ b, Right p) → encL a <+: encL b → a <+: b
  | [], _, _, _, _, _, _ => List.nil_prefix
  | p :: a, [], _, _, _, _, h => by
    obtain ⟨c, t, e⟩ := encP_cons p (encL a)
    rw [encL_cons, e, encL_nil] at h
    exact absurd h (by simp)
  | p :: a, q :: b, ha, hb, ra, rb, h => by
    have hp := ha.each p List.mem_cons_self
    have hq := hb.each q List.mem_cons_self
    have rp := ra p List.mem_cons_self
    have rq := rb q List.mem_cons_self
    have ha' : PartsOk a := ⟨by have := ha.len; simp only [List.length_cons] at this; omega, fun x hx => ha.each x (List.mem_cons_of_mem _ hx)⟩
    have hb' : PartsOk b := ⟨by have := hb.len; simp only [List.length_cons] at this; omega, fun x hx => hb.each x (List.mem_cons_of_mem _ hx)⟩
    obtain ⟨r, hr⟩ := h
    rw [encL_cons, encL_cons, List.append_assoc] at hr
    rcases ordP_cases p q with e | e | e
    · have := ordP_less p q hp hq rp rq e (encL a ++ r) (encL b)
      rw [hr, less_irr] at this
      cases this
    · have e2 := ordP_same p q rp rq e
      subst e2
      have hr2 : encL a ++ r = encL b := List.append_cancel_left hr
      exact List.cons_prefix_cons.2 ⟨rfl, enc_prefix a b ha' hb' (fun x hx => ra x (List.mem_cons_of_mem _ hx)) (fun x hx => rb x (List.mem_cons_of_mem _ hx)) ⟨r, hr2⟩⟩
    · have sw := ordP_swap p q
      have := ordP_less q p hq hp rq rp (by omega) (encL b) (encL a ++ r)
      rw [hr, less_irr] at this
      cases this
theorem less_nil (a : List Int) : lessI a [] = false := by cases a <;> rfl
theorem prefix_within {a b : List S46} (h : a <+: b) : lessI (encL b) (encL a) = false ∧ lessI (encL b) (encL a ++ [255]) = true := by
  obtain ⟨r, rfl⟩ := h
  rw [encL_append]
  have e : encL a = encL a ++ [] := by simp
  refine ⟨?_, ?_⟩
  · conv => lhs; arg 2; rw [e]
    rw [less_same, less_nil]
  · rw [less_same]
    cases r with
    | nil => rfl
    | cons p r =>
      obtain ⟨t, et⟩ := encP_mark p
      rw [encL_cons, et]
      refine less_here ?_ _ _
      unfold mark
      split
      · decide
      split <;> decide
open Classical in
theorem pureTupleRanges (a b : List S46) (ha : PartsOk a) (hb : PartsOk b) : ∃ k, ambrylaw02_TupleRanges.f k a b = some true := by
  refine Ev.rounds (r := true) ?_
  have hna := ha.len
  unfold ambrylaw02_TupleRanges.f
  simp only [few_told, Option.bind_some]
  by_cases h1 : (a.length : Int) ≤ 1000
  case neg => exact Ev.congr (f := fun k => ambrylaw02_TupleRanges.j0 k a b true) (fun k => by rw [decide_eq_false h1, if_neg (by decide)]) (ranges_yes a b)
  by_cases h2 : (b.length : Int) ≤ 1000
  case neg => exact Ev.congr (f := fun k => ambrylaw02_TupleRanges.j0 k a b true) (fun k => by rw [decide_eq_true h1, if_pos rfl, decide_eq_false h2]; rfl) (ranges_yes a b)
  refine Ev.congr (f := fun k => ambrylaw02_TupleRanges.j0 k a b false) (fun k => by rw [decide_eq_true h1, if_pos rfl, decide_eq_true h2]; rfl) ?_
  refine Ev.step (f := fun k => (tuple_Encode.f k a).bind fun x => (tuple_Encode.f k b).bind fun y => (if x.2 = 0 then (ambrylaw02_TupleRanges.j1 k a b x.1 y.1 (y.2 != 0)) else (ambrylaw02_TupleRanges.j1 k a b x.1 y.1 true))) (fun k => by rw [ambrylaw02_TupleRanges.j0, if_neg (by decide)]) ?_
  refine Ev.bind (encode_ev a ha) (Ev.bind (encode_ev b hb) ?_)
  by_cases hz1 : (Enc a).2 = 0
  case neg => exact Ev.congr (f := fun k => ambrylaw02_TupleRanges.j1 k a b (Enc a).1 (Enc b).1 true) (fun k => by rw [if_neg hz1]) (ranges_bad _ _ _ _)
  by_cases hz2 : (Enc b).2 = 0
  case neg => exact Ev.congr (f := fun k => ambrylaw02_TupleRanges.j1 k a b (Enc a).1 (Enc b).1 true) (fun k => by rw [if_pos hz1, bne_iff_ne.2 hz2]) (ranges_bad _ _ _ _)
  obtain ⟨hr1, hl1⟩ := enc_zero hz1
  obtain ⟨hr2, hl2⟩ := enc_zero hz2
  refine Ev.congr (f := fun k => ambrylaw02_TupleRanges.j1 k a b (Enc a).1 (Enc b).1 false) (fun k => by rw [if_pos hz1, hz2]; rfl) ?_
  rw [enc_ok hr1 hl1, enc_ok hr2 hl2]
  have e1 : Op.bytesLess (strOfNums (encL b)).toList (strOfNums (encL a)).toList = lessI (encL b) (encL a) := by
    rw [less_bytes, bytes_of_nums _ (encL_bytes a), bytes_of_nums _ (encL_bytes b)]
  by_cases hs : lessI (encL b) (encL a) = true
  · have hno : ¬ a <+: b := fun h => by rw [(prefix_within h).1] at hs; cases hs
    refine Ev.step (f := fun k => (ambrylaw02_begins.f k a b).bind fun t => (if (false == t) = true then ((ambrylaw02_lives.f k).bind fun t => (some t)) else (some false))) (fun k => by rw [ambrylaw02_TupleRanges.j1, if_neg (by decide), if_pos (by rw [e1]; exact hs)]) ?_
    refine Ev.bind (begins_ev a b hna) ?_
    rw [decide_eq_false hno]
    exact Ev.congr (f := fun k => (ambrylaw02_lives.f k).bind fun t => some t) (fun k => by rw [if_pos (by decide)]) lives_then
  · have hs' : lessI (encL b) (encL a) = false := by simpa using hs
    refine Ev.step (f := fun k => (ambrylaw02_begins.f k a b).bind fun t => (if ((Op.bytesLess (strOfNums (encL b)).toList (strOfNums (encL a) ++ (⟨#[255]⟩ : ByteArray)).toList) == t) = true then ((ambrylaw02_lives.f k).bind fun t => (some t)) else (some false))) (fun k => by
      rw [ambrylaw02_TupleRanges.j1, if_neg (by decide), if_neg (by rw [e1]; exact hs)]
      unfold tuple_Behind.f
      rw [if_pos (by rw [strOfNums_size]; omega)]
      rfl) ?_
    refine Ev.bind (begins_ev a b hna) ?_
    have e2 : Op.bytesLess (strOfNums (encL b)).toList (strOfNums (encL a) ++ (⟨#[255]⟩ : ByteArray)).toList = lessI (encL b) (encL a ++ [255]) := by
      have e3 : strOfNums (encL a) ++ (⟨#[255]⟩ : ByteArray) = strOfNums (encL a ++ [255]) := by rw [nums_append]; rfl
      have hby : ∀ x ∈ encL a ++ [255], IsByte x := fun x hx => by
        rcases List.mem_append.1 hx with h | h
        · exact encL_bytes a x h
        · rw [List.mem_singleton] at h
          rw [h]
          unfold IsByte
          decide
      rw [e3, less_bytes, bytes_of_nums _ hby, bytes_of_nums _ (encL_bytes b)]
    have e4 : lessI (encL b) (encL a ++ [255]) = decide (a <+: b) := by
      by_cases h : a <+: b
      · rw [decide_eq_true h, (prefix_within h).2]
      · rw [decide_eq_false h, Bool.eq_false_iff]
        intro hw
        exact h (enc_prefix a b ha hb hr1 hr2 (within_prefix _ _ (encL_bytes b) hs' hw))
    rw [e2, e4]
    exact Ev.congr (f := fun k => (ambrylaw02_lives.f k).bind fun t => some t) (fun k => by rw [if_pos (beq_self_eq_true _)]) lives_then
end Go.Proofs.Ythcfkilofgfgpaa.A
