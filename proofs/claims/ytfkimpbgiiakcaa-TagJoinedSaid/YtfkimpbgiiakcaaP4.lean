/- Any two tags are joined as the document says. -/
import Derived.Test.YtfkimpbgiiakcaaAx6
import Derived.Test.YtfkimpbgiiakcaaP1
namespace Go.Proofs.Ytfkimpbgiiakcaa.A
open Go.RowKit Go.Proofs.YtfkimpbgiiakcaaW.PrintWords Go.Proofs.YtfkimpbgiiakcaaW.PrintLast Go.Proofs.YtfkimpbgiiakcaaW.PrintMore
set_option linter.unusedVariables false
theorem rright_is' (a b : Int) : ambryref03_Right.f a b = some (rightB a b) := by
  unfold ambryref03_Right.f rightB
  by_cases h1 : a ≥ 0
  · rw [if_pos h1]
    by_cases h2 : a < 1048573
    · rw [if_pos h2]
      by_cases h3 : b ≥ 0
      · rw [if_pos h3]
        by_cases h4 : b < 1048573 <;> simp [h1, h2, h3, h4]
      · rw [if_neg h3]
        simp [h3]
    · rw [if_neg h2]
      simp [h2]
  · rw [if_neg h1]
    simp [h1]
theorem prod_bound {a b : Int} (ha : 0 ≤ a ∧ a < 1048573) (hb : 0 ≤ b ∧ b < 1048573) : 0 ≤ a * b ∧ a * b < 4398046511104 := by
  have h := prod_lt (a := a) (b := b) (by omega) (by omega)
  exact ⟨Int.mul_nonneg ha.1 hb.1, by omega⟩
theorem rtimes_is (a b : Int × Int) (ha : InP a) (hb : InP b) : ambryref03_times.f a.1 a.2 b.1 b.2 = some (cTimes a b) := by
  unfold ambryref03_times.f
  have p1 := prod_bound ha.1 hb.1
  have p2 := prod_bound ha.2 hb.2
  have p3 := prod_bound ha.1 hb.2
  have p4 := prod_bound ha.2 hb.1
  have e : cTimes a b = ((a.1 * b.1 - a.2 * b.2) % 1048573, (a.1 * b.2 + a.2 * b.1) % 1048573) := rfl
  rw [e]
  generalize a.1 * b.1 = x1 at *
  generalize a.2 * b.2 = x2 at *
  generalize a.1 * b.2 = x3 at *
  generalize a.2 * b.1 = x4 at *
  have i1 : -9223372036854775808 ≤ x1 ∧ x1 ≤ 9223372036854775807 := by omega
  have i2 : -9223372036854775808 ≤ x2 ∧ x2 ≤ 9223372036854775807 := by omega
  have i3 : -9223372036854775808 ≤ x3 ∧ x3 ≤ 9223372036854775807 := by omega
  have i4 : -9223372036854775808 ≤ x4 ∧ x4 ≤ 9223372036854775807 := by omega
  have i5 : -4611686018427387904 ≤ x1 - x2 ∧ x1 - x2 ≤ 4611686018427387904 := by omega
  have i6 : -4611686018427387904 ≤ x3 + x4 ∧ x3 + x4 ≤ 4611686018427387904 := by omega
  rw [wrap_ok x1 i1.1 i1.2, wrap_ok x2 i2.1 i2.2, wrap_ok x3 i3.1 i3.2, wrap_ok x4 i4.1 i4.2, wrap_ok (x1 - x2) (by omega) (by omega), wrap_ok (x3 + x4) (by omega) (by omega), rleft_is _ i5.1 i5.2, rleft_is _ i6.1 i6.2]
  rfl
theorem rpower_loop (n : Nat) : ∀ (p b : Int × Int), n ≤ 9223372036854775807 → InP p → InP b → Ev (fun k => ambryref03_power.l0 k (n : Int) p.1 p.2 b.1 b.2) (powGo n p b) := by
  induction n using Nat.strongRecOn with
  | _ n ih =>
    intro p b hn hp hb
    rw [powGo]
    by_cases h0 : n = 0
    · subst h0
      rw [if_pos rfl]
      refine Ev.step (f := fun _ => some p) (fun k => ?_) (Ev.now _)
      simp only [ambryref03_power.l0]
      rw [if_neg (by omega)]
    · rw [if_neg h0]
      have c1 : (n : Int) > 0 := by omega
      have e1 : Int.tmod (n : Int) 2 = ((n % 2 : Nat) : Int) := rfl
      have e2 : Int.tdiv (n : Int) 2 = ((n / 2 : Nat) : Int) := rfl
      have hd : n / 2 < n := by omega
      have hd2 : n / 2 ≤ 9223372036854775807 := by omega
      have w2 : ∀ m : Nat, m ≤ 9223372036854775807 → wrap64 (m : Int) = (m : Int) := fun m hm => wrap_ok _ (by omega) (by omega)
      by_cases hodd : n % 2 = 1
      · have c2 : ((n % 2 : Nat) : Int) = 1 := by omega
        rw [if_pos hodd]
        refine Ev.step (fun k => ?_) (ih (n / 2) hd _ _ hd2 (cTimes_in p b) (cTimes_in b b))
        simp only [ambryref03_power.l0]
        rw [if_pos c1, e1, if_pos c2, rtimes_is p b hp hb, rtimes_is b b hb hb, e2, w2 _ hd2]
        rfl
      · have c2 : ¬ ((n % 2 : Nat) : Int) = 1 := by omega
        rw [if_neg hodd]
        refine Ev.step (fun k => ?_) (ih (n / 2) hd _ _ hd2 hp (cTimes_in b b))
        simp only [ambryref03_power.l0]
        rw [if_pos c1, e1, if_neg c2, rtimes_is b b hb hb, e2, w2 _ hd2]
        rfl
theorem rpower_ev (n : Nat) (hn : n ≤ 9223372036854775807) : Ev (fun k => ambryref03_power.f k (n : Int)) (powOf n) :=
  rpower_loop n (1, 0) (3, 2) hn (by unfold InP; decide) (by unfold InP; decide)
/-- What joining tells. -/
def joinT (a b : Int × Int) (n : Int) : Int × Int × Int := if rightB a.1 a.2 = true ∧ rightB b.1 b.2 = true ∧ 0 ≤ n then ((joinOf a b n.toNat).1, (joinOf a b n.toNat).2, 0) else (0, 0, 2)
theorem tag_Join_is (a0 a1 b0 b1 n : Int) (hn : n ≤ 9223372036854775807) : tag_Join.f a0 a1 b0 b1 n = some (joinT (a0, a1) (b0, b1) n) := by
  unfold tag_Join.f joinT
  simp only
  rw [if_pos hn]
  split <;> rfl
theorem rightB_InP {a b : Int} (h : rightB a b = true) : InP (a, b) := by
  have h2 : (0 ≤ a ∧ a < 1048573) ∧ (0 ≤ b ∧ b < 1048573) := of_decide_eq_true h
  exact h2
theorem rjoin_no (x2 : Int) (a0 a1 b0 b1 : Int) : Ev (fun k => ambryref03_Join.j0 k x2 true a0 a1 b0 b1) (0, 0, 2) := by
  refine Ev.step (f := fun _ => some (0, 0, 2)) (fun k => ?_) (Ev.now _)
  simp only [ambryref03_Join.j0, if_true]
theorem rjoin_ev (a0 a1 b0 b1 n : Int) (hn : n ≤ 9223372036854775807) : Ev (fun k => ambryref03_Join.f k a0 a1 b0 b1 n) (joinT (a0, a1) (b0, b1) n) := by
  unfold joinT
  simp only
  cases ha : rightB a0 a1
  · rw [if_neg (by simp)]
    refine Ev.congr (fun k => ?_) (rjoin_no n a0 a1 b0 b1)
    unfold ambryref03_Join.f
    rw [rright_is', ha]
    rfl
  · cases hb : rightB b0 b1
    · rw [if_neg (by simp)]
      refine Ev.congr (fun k => ?_) (rjoin_no n a0 a1 b0 b1)
      unfold ambryref03_Join.f
      rw [rright_is', rright_is', ha, hb]
      rfl
    · by_cases h0 : 0 ≤ n
      · rw [if_pos ⟨rfl, rfl, h0⟩]
        obtain ⟨m, rfl⟩ := Int.eq_ofNat_of_zero_le h0
        have hp := powOf_in m
        have hA := rightB_InP ha
        have hB := rightB_InP hb
        have ht := cTimes_in (a0, a1) (powOf m)
        have c1 : decide ((m : Int) < 0) = false := decide_eq_false (by omega)
        refine Ev.congr (f := fun k => ambryref03_Join.j0 k (m : Int) false a0 a1 b0 b1) (fun k => ?_) (Ev.step (f := fun k => (ambryref03_power.f k (m : Int)).bind fun bt168 => ((ambryref03_times.f a0 a1 bt168.1 bt168.2).bind fun bt170 => ((ambryref03_left.f (wrap64 (bt170.1 + b0))).bind fun t173 => ((ambryref03_left.f (wrap64 (bt170.2 + b1))).bind fun t174 => (some (t173, t174, 0)))))) (fun k => ?_) (Ev.bind (rpower_ev m (by omega)) ?_))
        · unfold ambryref03_Join.f
          rw [rright_is', rright_is', ha, hb, c1]
          rfl
        · simp only [ambryref03_Join.j0, Bool.false_eq_true, if_false]
        · have e := rtimes_is (a0, a1) (powOf m) hA hp
          simp only at e
          simp only [e, Option.bind_some]
          have ej : joinOf (a0, a1) (b0, b1) m = (((cTimes (a0, a1) (powOf m)).1 + b0) % 1048573, ((cTimes (a0, a1) (powOf m)).2 + b1) % 1048573) := rfl
          rw [Int.toNat_natCast, ej]
          unfold InP at hB ht
          simp only at hB
          generalize (cTimes (a0, a1) (powOf m)).1 = x at *
          generalize (cTimes (a0, a1) (powOf m)).2 = y at *
          have i1 : -4611686018427387904 ≤ x + b0 ∧ x + b0 ≤ 4611686018427387904 := by omega
          have i2 : -4611686018427387904 ≤ y + b1 ∧ y + b1 ≤ 4611686018427387904 := by omega
          simp only [wrap_ok (x + b0) (by omega) (by omega), wrap_ok (y + b1) (by omega) (by omega), rleft_is _ i1.1 i1.2, rleft_is _ i2.1 i2.2, Option.bind_some]
          exact Ev.now _
      · rw [if_neg (fun h => h0 h.2.2)]
        refine Ev.congr (fun k => ?_) (rjoin_no n a0 a1 b0 b1)
        unfold ambryref03_Join.f
        rw [rright_is', rright_is', ha, hb, decide_eq_true (show n < 0 by omega)]
        rfl
theorem pureTagJoined (a0 a1 b0 b1 n : Int) (w1 : (Lit.int .i64 a0).wf = true) (w2 : (Lit.int .i64 a1).wf = true) (w3 : (Lit.int .i64 b0).wf = true) (w4 : (Lit.int .i64 b1).wf = true) (w5 : (Lit.int .i64 n).wf = true) : ∃ k, ambrylaw03_TagJoined.f k a0 a1 b0 b1 n = some true := by
  have hn : n ≤ 9223372036854775807 := by
    have e2 : IntKind.i64.max = 9223372036854775807 := by decide
    simp only [Lit.wf, Bool.and_eq_true, decide_eq_true_eq, e2] at w5
    exact w5.2
  have h : Ev (fun k => ambrylaw03_TagJoined.f k a0 a1 b0 b1 n) true := by
    refine Ev.congr (f := fun k => (ambryref03_Join.f k a0 a1 b0 b1 n).bind fun bt183 => (if ((joinT (a0, a1) (b0, b1) n).1 == bt183.1 && ((joinT (a0, a1) (b0, b1) n).2.1 == bt183.2.1)) = true then (if (joinT (a0, a1) (b0, b1) n).2.2 = bt183.2.2 then some true else (some false)) else (some false))) (fun k => ?_) (Ev.bind (rjoin_ev a0 a1 b0 b1 n hn) ?_)
    · unfold ambrylaw03_TagJoined.f
      rw [tag_Join_is a0 a1 b0 b1 n hn, check_some]
      unfold ambryref03_Check.f
      rw [rright_is']
      simp only [Option.bind_some]
      congr 1
      funext x
      congr 2
      cases rightB a0 a1 <;> rfl
    · simp only [beq_self_eq_true, Bool.and_self, if_true]
      exact Ev.now _
  exact h.rounds
end Go.Proofs.Ytfkimpbgiiakcaa.A
