/- How two keys stand, by the document: as the program says. -/
import Derived.Test.YthcfkilofgfgpaaM3
import Derived.Test.YthcfkilofgfgpaaM4
import Derived.Test.YthcfkilofgfgpaaAx6
namespace Go.Proofs.Ythcfkilofgfgpaa.A
open Go.RowKit Go.Proofs.YthcfkilofgfgpaaW.PrintWords Go.Proofs.YthcfkilofgfgpaaW.PrintLast Go.Proofs.YthcfkilofgfgpaaW.PrintMore
set_option linter.unusedVariables false
set_option linter.unusedSimpArgs false
/-! ### the same, by the document -/
theorem below_ev (a b : ByteArray) (ha : a.size ≤ 140737488351232) : Ev (fun k => ambryref02_Below.f k a b) (lessI (bytesOf a) (bytesOf b)) := by
  have drop : ∀ (s : ByteArray) (i : Nat), i < s.size → (bytesOf s).drop i = bt s (i : Int) :: (bytesOf s).drop (i + 1) := fun s i h => by
    have hl : i < (bytesOf s).length := by rw [bytesOf_length]; exact h
    have h1 := rd_bytesOf s (i : Int)
    rw [List.drop_eq_getElem_cons hl, ← h1]
    simp [rd, List.getD_eq_getElem?_getD, List.getElem?_eq_getElem hl]
  have over : ∀ i : Nat, i ≤ a.size → i ≤ b.size → ¬ (i < a.size ∧ i < b.size) → Ev (fun k => ambryref02_Below.l0 k a b (i : Int)) (lessI ((bytesOf a).drop i) ((bytesOf b).drop i)) := by
    intro i hi hj h
    have e : lessI ((bytesOf a).drop i) ((bytesOf b).drop i) = decide ((a.size : Int) < (b.size : Int)) := by
      by_cases hb : i < b.size
      · have ha : ¬ i < a.size := fun ha => h ⟨ha, hb⟩
        rw [List.drop_of_length_le (l := bytesOf a) (by rw [bytesOf_length]; omega), drop b i hb, decide_eq_true (by omega)]
        rfl
      · rw [List.drop_of_length_le (l := bytesOf b) (by rw [bytesOf_length]; omega), decide_eq_false (by omega)]
        cases (bytesOf a).drop i <;> rfl
    rw [e]
    refine Ev.step (f := fun k => ambryref02_Below.j1 k a b (i : Int) false) (fun k => ?_) ?_
    · rw [ambryref02_Below.l0]
      by_cases ha : (i : Int) < (a.size : Int)
      · rw [if_pos ha, decide_eq_false (by omega)]
      · rw [if_neg ha]
    · exact Ev.step (f := fun _ => some (decide ((a.size : Int) < (b.size : Int)))) (fun k => by rw [ambryref02_Below.j1, if_neg (by decide)]) (Ev.now _)
  have key : ∀ (d i : Nat), i + d = a.size → i ≤ b.size → Ev (fun k => ambryref02_Below.l0 k a b (i : Int)) (lessI ((bytesOf a).drop i) ((bytesOf b).drop i)) := by
    intro d
    induction d with
    | zero => intro i hi hj; exact over i (by omega) hj (by omega)
    | succ d ih =>
      intro i hi hj
      have hlt : i < a.size := by omega
      by_cases hjl : i < b.size
      · refine Ev.step (f := fun k => ambryref02_Below.j1 k a b (i : Int) true) (fun k => by rw [ambryref02_Below.l0, if_pos (by omega), decide_eq_true (by omega)]) ?_
        have hw : wrap64 ((i : Int) + 1) = ((i + 1 : Nat) : Int) := by rw [wrap_ok _ (by omega) (by omega)]; omega
        rw [drop a i hlt, drop b i hjl]
        simp only [lessI]
        by_cases e : bt a (i : Int) = bt b (i : Int)
        · refine Ev.step (f := fun k => ambryref02_Below.l0 k a b ((i + 1 : Nat) : Int)) (fun k => by rw [ambryref02_Below.j1, if_pos rfl, if_pos (by omega), if_pos (by omega), if_pos (by omega), if_pos e, hw]) ?_
          refine ev_val (ih (i + 1) (by omega) (by omega)) ?_
          rw [decide_eq_true e, decide_eq_false (by omega)]
          simp
        · refine Ev.step (f := fun _ => some (decide (bt a (i : Int) < bt b (i : Int)))) (fun k => by rw [ambryref02_Below.j1, if_pos rfl, if_pos (by omega), if_pos (by omega), if_pos (by omega), if_neg e]) ?_
          refine ev_val (Ev.now _) ?_
          rw [decide_eq_false e]
          simp
      · exact over i (by omega) hj (fun h => hjl h.2)
  exact key a.size 0 (by omega) (by omega)
theorem ahead_ev (p q : S46) (hp : PartOk p) : Ev (fun k => ambryref02_ahead.f k p.f0 p.f1 p.f2 q.f0 q.f1 q.f2) (decide (ordP p q = -1)) := by
  have hs := hp.text
  unfold ordP
  rcases cmpI_cases p.f0 q.f0 with ⟨h, e⟩ | ⟨h, e⟩ | ⟨h, e⟩
  · rw [e, if_neg (by decide)]
    exact Ev.congr (f := fun _ => some true) (fun k => by unfold ambryref02_ahead.f; rw [if_neg (by omega), decide_eq_true h]) (Ev.now _)
  · rw [e, if_pos rfl]
    by_cases h2 : p.f0 = 2
    · rw [if_pos h2]
      refine Ev.congr (f := fun _ => some (decide (p.f1 < q.f1))) (fun k => by unfold ambryref02_ahead.f; rw [if_pos h, if_pos h2]) ?_
      refine ev_val (Ev.now _) ?_
      rcases cmpI_cases p.f1 q.f1 with ⟨h4, e4⟩ | ⟨h4, e4⟩ | ⟨h4, e4⟩
      · rw [e4, decide_eq_true h4]; rfl
      · rw [e4, decide_eq_false (by omega)]; rfl
      · rw [e4, decide_eq_false (by omega)]; rfl
    rw [if_neg h2]
    by_cases h3 : p.f0 = 3
    · rw [if_pos h3]
      refine Ev.congr (f := fun _ => some (decide (p.f1 > q.f1))) (fun k => by unfold ambryref02_ahead.f; rw [if_pos h, if_neg h2, if_pos h3]) ?_
      refine ev_val (Ev.now _) ?_
      rcases cmpI_cases q.f1 p.f1 with ⟨h4, e4⟩ | ⟨h4, e4⟩ | ⟨h4, e4⟩
      · rw [e4, decide_eq_true h4]; rfl
      · rw [e4, decide_eq_false (by omega)]; rfl
      · rw [e4, decide_eq_false (by omega)]; rfl
    · rw [if_neg h3]
      refine Ev.congr (f := fun k => ambryref02_Below.f k p.f2 q.f2) (fun k => by unfold ambryref02_ahead.f; rw [if_pos h, if_neg h2, if_neg h3]; cases ambryref02_Below.f k p.f2 q.f2 <;> rfl) ?_
      refine ev_val (below_ev p.f2 q.f2 hs) ?_
      rcases cmpS_cases p.f2 q.f2 with ⟨h4, e4⟩ | ⟨h4, e4⟩ | ⟨h4, e4⟩
      · rw [e4, h4]; rfl
      · rw [e4, h4, less_irr]; rfl
      · rw [e4, less_asym _ _ h4]; rfl
  · rw [e, if_neg (by decide)]
    exact Ev.congr (f := fun _ => some false) (fun k => by unfold ambryref02_ahead.f; rw [if_neg (by omega), decide_eq_false (by omega)]) (Ev.now _)
theorem rcompare_loop (a b : List S46) (ha : PartsOk a) (hb : PartsOk b) : ∀ (d i : Nat), i + d = a.length → i ≤ b.length → Ev (fun k => ambryref02_Compare.l0 k a b (i : Int)) (cmpL (a.drop i) (b.drop i), 0) := by
  have hn := ha.len
  intro d
  have over : ∀ i : Nat, i ≤ a.length → i ≤ b.length → ¬ (i < a.length ∧ i < b.length) → Ev (fun k => ambryref02_Compare.l0 k a b (i : Int)) (cmpL (a.drop i) (b.drop i), 0) := by
    intro i hi hj h
    rw [cmpL_drop_nil h hi hj]
    refine Ev.step (f := fun k => ambryref02_Compare.j1 k a b (i : Int) false) (fun k => ?_) ?_
    · rw [ambryref02_Compare.l0]
      by_cases ha : (i : Int) < (a.length : Int)
      · rw [if_pos ha, decide_eq_false (by omega)]
      · rw [if_neg ha]
    · refine Ev.step (f := fun _ => some (cmpI (a.length : Int) (b.length : Int), 0)) (fun k => ?_) (Ev.now _)
      rw [ambryref02_Compare.j1, if_neg (by decide)]
      unfold cmpI
      split
      · rfl
      · split <;> rfl
  induction d with
  | zero =>
    intro i hi hj
    exact over i (by omega) hj (by omega)
  | succ d ih =>
    intro i hi hj
    have hlt : i < a.length := by omega
    by_cases hjl : i < b.length
    · rw [cmpL_drop_cons hlt hjl]
      refine Ev.step (f := fun k => ambryref02_Compare.j1 k a b (i : Int) true) (fun k => by rw [ambryref02_Compare.l0, if_pos (by omega), decide_eq_true (by omega)]) ?_
      refine Ev.step (f := fun k => (ambryref02_ahead.f k a[i].f0 a[i].f1 a[i].f2 b[i].f0 b[i].f1 b[i].f2).bind fun t => (if t = true then (some ((-1), 0)) else ((ambryref02_ahead.f k b[i].f0 b[i].f1 b[i].f2 a[i].f0 a[i].f1 a[i].f2).bind fun t2 => (if t2 = true then (some (1, 0)) else (ambryref02_Compare.l0 k a b ((i + 1 : Nat) : Int)))))) (fun k => by rw [ambryref02_Compare.j1, if_pos rfl, if_pos (by omega), if_pos (by omega), if_pos (by omega), rd_at a i hlt, rd_at b i hjl, wrap_up i a.length hlt (by omega)]) ?_
      refine Ev.bind (ahead_ev a[i] b[i] (ha.each _ (List.getElem_mem hlt))) ?_
      rcases ordP_cases a[i] b[i] with e | e | e
      · rw [e, if_neg (by decide)]
        exact Ev.congr (f := fun _ => some ((-1), 0)) (fun k => by rw [if_pos (by decide)]) (Ev.now _)
      · rw [e, if_pos rfl]
        refine Ev.congr (f := fun k => (ambryref02_ahead.f k b[i].f0 b[i].f1 b[i].f2 a[i].f0 a[i].f1 a[i].f2).bind fun t2 => (if t2 = true then (some (1, 0)) else (ambryref02_Compare.l0 k a b ((i + 1 : Nat) : Int)))) (fun k => by rw [if_neg (by decide)]) ?_
        refine Ev.bind (ahead_ev b[i] a[i] (hb.each _ (List.getElem_mem hjl))) ?_
        rw [ordP_swap, e]
        exact Ev.congr (f := fun k => ambryref02_Compare.l0 k a b ((i + 1 : Nat) : Int)) (fun k => by rw [if_neg (by decide)]) (ih (i + 1) (by omega) (by omega))
      · rw [e, if_neg (by decide)]
        refine Ev.congr (f := fun k => (ambryref02_ahead.f k b[i].f0 b[i].f1 b[i].f2 a[i].f0 a[i].f1 a[i].f2).bind fun t2 => (if t2 = true then (some (1, 0)) else (ambryref02_Compare.l0 k a b ((i + 1 : Nat) : Int)))) (fun k => by rw [if_neg (by decide)]) ?_
        refine Ev.bind (ahead_ev b[i] a[i] (hb.each _ (List.getElem_mem hjl))) ?_
        rw [ordP_swap, e]
        exact Ev.congr (f := fun _ => some (1, 0)) (fun k => by rw [if_pos (by decide)]) (Ev.now _)
    · exact over i (by omega) hj (fun h => hjl h.2)
theorem rcompare_ev (a b : List S46) (ha : PartsOk a) (hb : PartsOk b) : Ev (fun k => ambryref02_Compare.f k a b) (Cmp a b) := by
  unfold Cmp
  refine Ev.bind (rcheck_ev a ha) ?_
  by_cases h1 : (Enc a).2 = 0
  · rw [if_pos h1]
    refine Ev.congr (f := fun k => (ambryref02_Check.f k b).bind fun t118 => (if t118 = 0 then (ambryref02_Compare.l0 k a b 0) else (some (0, t118)))) (fun k => by rw [if_pos h1]) ?_
    refine Ev.bind (rcheck_ev b hb) ?_
    by_cases h2 : (Enc b).2 = 0
    · rw [if_pos h2]
      exact Ev.congr (f := fun k => ambryref02_Compare.l0 k a b ((0 : Nat) : Int)) (fun k => by rw [if_pos h2]; rfl) (rcompare_loop a b ha hb a.length 0 (by omega) (by omega))
    · rw [if_neg h2]
      exact Ev.congr (f := fun _ => some (0, (Enc b).2)) (fun k => by rw [if_neg h2]) (Ev.now _)
  · rw [if_neg h1]
    exact Ev.congr (f := fun _ => some (0, (Enc a).2)) (fun k => by rw [if_neg h1]) (Ev.now _)
end Go.Proofs.Ythcfkilofgfgpaa.A
