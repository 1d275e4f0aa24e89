/- Two lists of parts are told to be the same just if they are. -/
import Derived.Test.YthcfkilofgfgpaaM5
import Derived.Test.YthcfkilofgfgpaaAx8
namespace Go.Proofs.Ythcfkilofgfgpaa.A
open Go.RowKit Go.Proofs.YthcfkilofgfgpaaW.PrintWords Go.Proofs.YthcfkilofgfgpaaW.PrintLast Go.Proofs.YthcfkilofgfgpaaW.PrintMore
set_option linter.unusedVariables false
set_option linter.unusedSimpArgs false
theorem part_ext {p q : S46} (h0 : p.f0 = q.f0) (h1 : p.f1 = q.f1) (h2 : p.f2 = q.f2) : p = q := by
  cases p; cases q; simp_all
theorem same_test (p q : S46) : ((!(p.f0 == q.f0) || (!(p.f1 == q.f1) || (!(p.f2.toList == q.f2.toList)))) = true) ↔ p ≠ q := by
  simp only [Bool.or_eq_true, Bool.not_eq_true', beq_eq_false_iff_ne, ne_eq, toList_iff]
  constructor
  · rintro h rfl
    simp at h
  · intro h
    by_cases h0 : p.f0 = q.f0
    · by_cases h1 : p.f1 = q.f1
      · exact .inr (.inr (fun h2 => h (part_ext h0 h1 h2)))
      · exact .inr (.inl h1)
    · exact .inl h0
open Classical in
theorem same_loop (a b : List S46) (hn : a.length ≤ 4398046510976) (hl : a.length = b.length) : ∀ (d i : Nat), i + d = a.length → Ev (fun k => ambryref02_Same.l0 k a b (i : Int)) (decide (a.drop i = b.drop i)) := by
  intro d
  induction d with
  | zero =>
    intro i hi
    rw [List.drop_of_length_le (l := a) (by omega), List.drop_of_length_le (l := b) (by omega)]
    exact Ev.step (f := fun _ => some true) (fun k => by rw [ambryref02_Same.l0, if_neg (by omega)]) (ev_val (Ev.now _) (by simp))
  | succ d ih =>
    intro i hi
    have hlt : i < a.length := by omega
    have hjl : i < b.length := by omega
    have head : ∀ k, ambryref02_Same.l0 (k + 1) a b (i : Int) = if ((!(a[i].f0 == b[i].f0) || (!(a[i].f1 == b[i].f1) || (!(a[i].f2.toList == b[i].f2.toList)))) = true) then some false else ambryref02_Same.l0 k a b ((i + 1 : Nat) : Int) := fun k => by
      rw [ambryref02_Same.l0, if_pos (by omega), if_pos (by omega), if_pos (by omega), rd_at a i hlt, rd_at b i hjl, wrap_up i a.length hlt (by omega)]
    rw [List.drop_eq_getElem_cons hlt, List.drop_eq_getElem_cons hjl]
    by_cases e : a[i] = b[i]
    · refine Ev.step (f := fun k => ambryref02_Same.l0 k a b ((i + 1 : Nat) : Int)) (fun k => by rw [head, if_neg (fun h => (same_test _ _).1 h e)]) (ev_val (ih (i + 1) (by omega)) ?_)
      rw [decide_eq_decide, List.cons.injEq]
      exact ⟨fun h => ⟨e, h⟩, fun h => h.2⟩
    · refine Ev.step (f := fun _ => some false) (fun k => by rw [head, if_pos ((same_test _ _).2 e)]) (ev_val (Ev.now _) ?_)
      rw [eq_comm, decide_eq_false_iff_not, List.cons.injEq]
      exact fun h => e h.1
open Classical in
theorem same_ev (a b : List S46) (hn : a.length ≤ 4398046510976) : Ev (fun k => ambryref02_Same.f k a b) (decide (a = b)) := by
  by_cases hl : a.length = b.length
  · refine Ev.congr (f := fun k => ambryref02_Same.l0 k a b ((0 : Nat) : Int)) (fun k => by unfold ambryref02_Same.f; rw [if_pos (by omega)]; rfl) ?_
    exact same_loop a b hn hl a.length 0 (by omega)
  · refine Ev.congr (f := fun _ => some false) (fun k => by unfold ambryref02_Same.f; rw [if_neg (by omega)]) (ev_val (Ev.now _) ?_)
    rw [eq_comm, decide_eq_false_iff_not]
    intro h
    exact hl (by rw [h])
end Go.Proofs.Ythcfkilofgfgpaa.A
