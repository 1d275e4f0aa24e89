/- The document's examples of keys are told as they stand there. -/
import Derived.Test.YthcfkilofgfgpaaM4
import Derived.Test.YthcfkilofgfgpaaAx4
namespace Go.Proofs.Ythcfkilofgfgpaa.A
open Go.RowKit Go.Proofs.YthcfkilofgfgpaaW.PrintWords Go.Proofs.YthcfkilofgfgpaaW.PrintLast Go.Proofs.YthcfkilofgfgpaaW.PrintMore
set_option linter.unusedVariables false
set_option linter.unusedSimpArgs false
theorem enc_ok {l : List S46} (h : ∀ p ∈ l, Right p) (h2 : (encL l).length ≤ 128) : Enc l = (strOfNums (encL l), 0) := by
  unfold Enc
  rw [if_pos h, if_pos h2]
theorem enc_zero {l : List S46} (h : (Enc l).2 = 0) : (∀ p ∈ l, Right p) ∧ (encL l).length ≤ 128 := by
  unfold Enc at h
  split at h
  · split at h
    · rename_i h1 h2
      exact ⟨h1, h2⟩
    · exact absurd h (by decide)
  · exact absurd h (by decide)
theorem enc_fst {l : List S46} (h : (Enc l).2 ≠ 0) : (Enc l).1 = ⟨#[]⟩ := by
  unfold Enc at h ⊢
  split at h
  · split at h
    · exact absurd rfl h
    · rename_i h1 h2
      rw [if_pos h1, if_neg h2]
  · rename_i h1
    rw [if_neg h1]
theorem ex1 : Enc [(⟨1, 0, ⟨#[97]⟩⟩ : S46), ⟨2, 1, ⟨#[]⟩⟩] = (⟨#[2, 97, 0, 1, 3, 128, 0, 0, 0, 0, 0, 0, 1]⟩, 0) := by
  rw [enc_ok (by
    intro p hp
    simp only [List.mem_cons, List.not_mem_nil, or_false] at hp
    rcases hp with rfl | rfl
    · exact .inl ⟨rfl, rfl⟩
    · exact .inr ⟨.inl rfl, rfl⟩) (by decide +kernel)]
  exact congrArg (fun x => (x, (0 : Int))) (by decide +kernel)
theorem ex2 : Enc [(⟨3, 1, ⟨#[]⟩⟩ : S46)] = (⟨#[4, 127, 255, 255, 255, 255, 255, 255, 254]⟩, 0) := by
  rw [enc_ok (by
    intro p hp
    simp only [List.mem_cons, List.not_mem_nil, or_false] at hp
    subst hp
    exact .inr ⟨.inr rfl, rfl⟩) (by decide +kernel)]
  exact congrArg (fun x => (x, (0 : Int))) (by decide +kernel)
theorem ex3 : Enc [(⟨1, 0, ⟨#[0]⟩⟩ : S46)] = (⟨#[2, 0, 255, 0, 1]⟩, 0) := by
  rw [enc_ok (by
    intro p hp
    simp only [List.mem_cons, List.not_mem_nil, or_false] at hp
    subst hp
    exact .inl ⟨rfl, rfl⟩) (by decide +kernel)]
  exact congrArg (fun x => (x, (0 : Int))) (by decide +kernel)
theorem ex4 : (Enc [(⟨3, 2, ⟨#[]⟩⟩ : S46)]).2 = 0 := by
  rw [enc_ok (by
    intro p hp
    simp only [List.mem_cons, List.not_mem_nil, or_false] at hp
    subst hp
    exact .inr ⟨.inr rfl, rfl⟩) (by decide +kernel)]
theorem parts_small {l : List S46} (h : l.length ≤ 100) (h2 : l.all (fun p => decide (-1000 ≤ p.f0) && decide (p.f0 ≤ 1000) && decide (-1000 ≤ p.f1) && decide (p.f1 ≤ 1000) && decide (p.f2.size ≤ 1000)) = true) : PartsOk l := by
  refine ⟨by omega, fun p hp => ?_⟩
  have := List.all_eq_true.1 h2 p hp
  simp only [Bool.and_eq_true, decide_eq_true_eq] at this
  refine ⟨?_, ?_, by omega⟩
  · simp [Lit.wf, IntKind.min, IntKind.max, IntKind.bits, IntKind.signed]; omega
  · simp [Lit.wf, IntKind.min, IntKind.max, IntKind.bits, IntKind.signed]; omega
theorem is_ev (want : ByteArray) (l : List S46) (hl : PartsOk l) (h : Enc l = (want, 0)) : Ev (fun k => ambrylaw02_is.f k want l) true := by
  refine Ev.bind (encode_ev l hl) ?_
  rw [h]
  exact Ev.congr (f := fun _ => some true) (fun k => by rw [if_pos rfl]; rfl) (Ev.now _)
theorem lives_ev : Ev (fun k => ambrylaw02_lives.f k) true := by
  have p1 : PartsOk [(⟨3, 2, ⟨#[]⟩⟩ : S46)] := parts_small (by decide) (by decide +kernel)
  have p2 : PartsOk [(⟨3, 1, ⟨#[]⟩⟩ : S46)] := parts_small (by decide) (by decide +kernel)
  have p3 : PartsOk [(⟨1, 0, ⟨#[97]⟩⟩ : S46), ⟨2, 1, ⟨#[]⟩⟩] := parts_small (by decide) (by decide +kernel)
  have p4 : PartsOk [(⟨1, 0, ⟨#[0]⟩⟩ : S46)] := parts_small (by decide) (by decide +kernel)
  have hc : Cmp [(⟨3, 2, ⟨#[]⟩⟩ : S46)] [(⟨3, 1, ⟨#[]⟩⟩ : S46)] = (-1, 0) := by
    unfold Cmp
    rw [if_pos ex4, if_pos (by rw [ex2])]
    exact congrArg (fun x => (x, (0 : Int))) (by decide +kernel)
  unfold ambrylaw02_lives.f ambrylaw02_down.f ambrylaw02_text.f ambrylaw02_up.f
  simp only [Option.bind_some]
  refine Ev.bind (compare_ev _ _ p1 p2) ?_
  rw [hc]
  refine Ev.bind (is_ev _ _ p3 ex1) ?_
  refine Ev.congr (f := fun k => (ambrylaw02_is.f k (⟨#[4, 127, 255, 255, 255, 255, 255, 255, 254]⟩ : ByteArray) [(⟨3, 1, ⟨#[]⟩⟩ : S46)]).bind fun t => if t = true then ((ambrylaw02_is.f k (⟨#[2, 0, 255, 0, 1]⟩ : ByteArray) [(⟨1, 0, ⟨#[0]⟩⟩ : S46)]).bind fun t2 => if t2 = true then some true else some false) else some false) (fun k => by rw [if_pos rfl]; rfl) ?_
  refine Ev.bind (is_ev _ _ p2 ex2) ?_
  refine Ev.congr (f := fun k => (ambrylaw02_is.f k (⟨#[2, 0, 255, 0, 1]⟩ : ByteArray) [(⟨1, 0, ⟨#[0]⟩⟩ : S46)]).bind fun t2 => if t2 = true then some true else some false) (fun k => by rw [if_pos rfl]) ?_
  refine Ev.bind (is_ev _ _ p4 ex3) ?_
  exact Ev.congr (f := fun _ => some true) (fun k => by rw [if_pos rfl]) (Ev.now _)
theorem lives_then : Ev (fun k => (ambrylaw02_lives.f k).bind fun t => some t) true := Ev.bind lives_ev (Ev.now _)
end Go.Proofs.Ythcfkilofgfgpaa.A
