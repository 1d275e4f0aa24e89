/- Release, Settle, Undo. -/
import Derived.Test.YtdjpohmgljhhcaaX17
namespace Go.Proofs.Ytdjpohmgljhhcaa.A
open Go.RowKit Go.Proofs.YtdjpohmgljhhcaaW.PrintWords Go.Proofs.YtdjpohmgljhhcaaW.PrintLast Go.Proofs.YtdjpohmgljhhcaaW.PrintMore
set_option linter.unusedVariables false
set_option linter.unusedSimpArgs false
set_option maxHeartbeats 4000000
set_option maxRecDepth 100000
theorem PagerAt.congr {N : Nat} {w : World} {p a q d kq sq c fr n dn : Nat} {S S' : Nat → Nat} {K : Nat → List Value} {P : List (List Value × Nat)} (h : PagerAt N w p a q d kq sq c fr n dn S K P) (e : ∀ i, i < n → S' i = S i) : PagerAt N w p a q d kq sq c fr n dn S' K P := by
  obtain ⟨sc, s1, s2⟩ := h.states
  have ht : tk n S' = tk n S := by
    funext x
    unfold tk
    by_cases g : x < n
    · rw [e x g]
    · rw [decide_eq_false g, Bool.false_and, Bool.false_and]
  exact ⟨h.self, by rw [ht]; exact h.alloc, h.disk, ⟨sc, s1, fun i hi => by rw [e i hi]; exact s2 i hi⟩, fun i hi => by rw [e i hi]; exact h.vals i hi, h.bq, h.bs, h.geo⟩
theorem IsPager.congr {N : Nat} {w : World} {p d fr n dn : Nat} {S S' : Nat → Nat} {K : Nat → List Value} {P : List (List Value × Nat)} (h : IsPager N w p d fr n dn S K P) (e : ∀ i, i < n → S' i = S i) : IsPager N w p d fr n dn S' K P := by
  obtain ⟨a, q, kq, sq, c, h⟩ := h
  exact ⟨a, q, kq, sq, c, h.congr e⟩
theorem IsPager.vals {N : Nat} {w : World} {p d fr n dn : Nat} {S : Nat → Nat} {K : Nat → List Value} {P : List (List Value × Nat)} (h : IsPager N w p d fr n dn S K P) : ∀ i, i < n → S i ≤ 3 := by
  obtain ⟨a, q, kq, sq, c, h⟩ := h
  exact h.vals
/-- The struct stands where a pager's calls have run. -/
theorem PagerAt.again {N : Nat} {w w' : World} {p a q d kq sq c fr n dn : Nat} {S S' : Nat → Nat} {K K' : Nat → List Value} {P P' : List (List Value × Nat)} (h : PagerAt N w p a q d kq sq c fr n dn S K P) (hm : Moves Mp N w w') (h' : IsPager N w' p d fr n dn S' K' P') : ∃ q' kq', PagerAt N w' p a q' d kq' sq c fr n dn S' K' P' := by
  obtain ⟨a', q', kq', sq', c', h'⟩ := h'
  have e := (hm.old _ _ _ _ h.self rfl).trans h.self
  rw [h'.self] at e
  simp at e
  obtain ⟨rfl, rfl, rfl⟩ := e
  exact ⟨q', kq', h'⟩
/-- What pages are behind Release. -/
def relS (n : Nat) (S : Nat → Nat) (i : Int) : Nat → Nat := if 0 ≤ i ∧ i < (n : Int) then (if S i.toNat = 2 then upd S i.toNat 0 else if S i.toNat = 1 then upd S i.toNat 3 else S) else S
/-- What a call leaves of a pager, whatever it tells. -/
def PSays (N p d fr n dn : Nat) (S' : Nat → Nat) (K : Nat → List Value) (P : List (List Value × Nat)) (w : World) (e : Ending) (w' : World) : Prop := ∃ er : Int, e = .returned (.int .i64 er) ∧ IsPager N w' p d fr n dn S' K P ∧ Moves Mp N w w'
theorem Release_calls {N : Nat} {w : World} {p d fr n dn : Nat} {S : Nat → Nat} {K : Nat → List Value} {P : List (List Value × Nat)} (h : IsPager N w p d fr n dn S K P) (i : Int) : Calls Try.prog 19 #[.pointer (some ⟨p, 0, none⟩), .int .i64 i] w (PSays N p d fr n dn (relS n S i) K P w) := by
  have H := Aside0.mk h
  by_cases g : 0 ≤ i ∧ i < (n : Int)
  · obtain ⟨I, rfl⟩ : ∃ I : Nat, (I : Int) = i := ⟨i.toNat, by omega⟩
    have HI := Aside0.mk (show I < n by omega)
    have HB := Aside0.mk (show true = decide (0 ≤ (I : Int) ∧ (I : Int) < (n : Int)) from (decide_eq_true g).symm)
    have HR := Aside0.mk (show relS n S (I : Int) = (if S I = 2 then upd S I 0 else if S I = 1 then upd S I 3 else S) by unfold relS; rw [if_pos g, Int.toNat_natCast])
    obtain ⟨a, q, kq, sq, c, h⟩ := h
    have HP := Aside0.mk h
    have hc3 : w.cell? ⟨p, 3, none⟩ = some (.slice (some ⟨sq, 0, none⟩) n c) := (blk_cell h.self 3).trans rfl
    have hst1 := (h.states.cell I HI.out).1
    have hst2 := (h.states.cell I HI.out).2
    have i0 : (0 : Int) ≤ (I : Int) := by omega
    have i1 : (I : Int) < (n : Int) := by omega
    clear h g
    by_cases g2 : S I = 2
    · have HE := Aside0.mk (show relS n S (I : Int) = upd S I 0 by rw [HR.out, if_pos g2])
      have HN0 := Aside0.mk (show S I ≠ 0 by omega)
      rw [g2] at hst1
      clear HR g2
      go_enter Try.func19, Try.ntmps19
      go_wp2_with (first | (go_at_call 23; (with_reducible refine (pmade_calls H.out).mono ?_); rintro e w1 ⟨rfl, rfl⟩) | (go_at_call 30; (with_reducible refine (there_calls H.out _ true HB.out).mono ?_); rintro e w1 ⟨rfl, rfl⟩) | (go_at_call 35; (with_reducible refine (drop_calls H.out I HI.out HN0.out _ rfl).mono ?_); rintro e w1 ⟨rfl, hp, hm⟩; have HP1 := Aside0.mk hp; have HM1 := Aside0.mk hm; clear hp hm))
      go_ret
      exact ⟨0, rfl, by rw [HE.out]; exact HP1.out, HM1.out⟩
    · by_cases g3 : S I = 1
      · have HE := Aside0.mk (show relS n S (I : Int) = upd S I 3 by rw [HR.out, if_neg g2, if_pos g3])
        have HS := Aside0.mk (HP.out.set I 3 HI.out (by decide) (by omega) (by decide))
        rw [g3] at hst1
        clear HR g2 g3
        go_enter Try.func19, Try.ntmps19
        go_wp2_with (first | (go_at_call 23; (with_reducible refine (pmade_calls H.out).mono ?_); rintro e w1 ⟨rfl, rfl⟩) | (go_at_call 30; (with_reducible refine (there_calls H.out _ true HB.out).mono ?_); rintro e w1 ⟨rfl, rfl⟩))
        go_ret
        exact ⟨0, rfl, by rw [HE.out]; exact ⟨a, q, kq, sq, c, HS.out.1⟩, HS.out.2⟩
      · have HE := Aside0.mk (show relS n S (I : Int) = S by rw [HR.out, if_neg g2, if_neg g3])
        obtain ⟨s, hs⟩ : ∃ s, S I = s := ⟨_, rfl⟩
        rw [hs] at hst1 g2 g3
        have g4 : ¬ (s : Int) = 2 := by omega
        have g5 : ¬ (s : Int) = 1 := by omega
        clear HR hs
        go_enter Try.func19, Try.ntmps19
        go_wp2_with (first | (go_at_call 23; (with_reducible refine (pmade_calls H.out).mono ?_); rintro e w1 ⟨rfl, rfl⟩) | (go_at_call 30; (with_reducible refine (there_calls H.out _ true HB.out).mono ?_); rintro e w1 ⟨rfl, rfl⟩))
        go_ret
        exact ⟨7, rfl, by rw [HE.out]; exact H.out, Moves.refl _ _ _⟩
  · have HB := Aside0.mk (show false = decide (0 ≤ i ∧ i < (n : Int)) from (decide_eq_false g).symm)
    have HR := Aside0.mk (show relS n S i = S by unfold relS; rw [if_neg g])
    clear g h
    go_enter Try.func19, Try.ntmps19
    go_wp2_with (first | (go_at_call 23; (with_reducible refine (pmade_calls H.out).mono ?_); rintro e w1 ⟨rfl, rfl⟩) | (go_at_call 30; (with_reducible refine (there_calls H.out _ false HB.out).mono ?_); rintro e w1 ⟨rfl, rfl⟩))
    go_ret
    exact ⟨6, rfl, by rw [HR.out]; exact H.out, Moves.refl _ _ _⟩
/-- What pages are where the first ones have been turned: such as are one thing are free, such as are another thing are settled. -/
def turnU (g s : Nat) (S : Nat → Nat) (k : Nat) : Nat → Nat := fun i => if i < k then (if S i = g then 0 else if S i = s then 1 else S i) else S i
def turnS (g s : Nat) (S : Nat → Nat) : Nat → Nat := fun i => if S i = g then 0 else if S i = s then 1 else S i
theorem turnU_goes {g s : Nat} {S : Nat → Nat} {k : Nat} (h : S k = g) : upd (turnU g s S k) k 0 = turnU g s S (k + 1) := by
  funext i
  unfold upd turnU
  by_cases e : i = k
  · subst e
    rw [if_pos rfl, if_pos (by omega), if_pos h]
  · rw [if_neg e]
    by_cases e2 : i < k
    · rw [if_pos e2, if_pos (show i < k + 1 by omega)]
    · rw [if_neg e2, if_neg (show ¬ i < k + 1 by omega)]
theorem turnU_stays {g s : Nat} {S : Nat → Nat} {k : Nat} (h0 : S k ≠ g) (h : S k = s) : upd (turnU g s S k) k 1 = turnU g s S (k + 1) := by
  funext i
  unfold upd turnU
  by_cases e : i = k
  · subst e
    rw [if_pos rfl, if_pos (by omega), if_neg h0, if_pos h]
  · rw [if_neg e]
    by_cases e2 : i < k
    · rw [if_pos e2, if_pos (show i < k + 1 by omega)]
    · rw [if_neg e2, if_neg (show ¬ i < k + 1 by omega)]
theorem turnU_none {g s : Nat} {S : Nat → Nat} {k : Nat} (h0 : S k ≠ g) (h : S k ≠ s) : turnU g s S k = turnU g s S (k + 1) := by
  funext i
  unfold turnU
  by_cases e : i = k
  · subst e
    rw [if_neg (by omega), if_pos (by omega), if_neg h0, if_neg h]
  · by_cases e2 : i < k
    · rw [if_pos e2, if_pos (show i < k + 1 by omega)]
    · rw [if_neg e2, if_neg (show ¬ i < k + 1 by omega)]
theorem turn_calls {N : Nat} {w : World} {p d fr n dn : Nat} {S : Nat → Nat} {K : Nat → List Value} {P : List (List Value × Nat)} (h : IsPager N w p d fr n dn S K P) (g s : Nat) (hg0 : g ≠ 0) (hs0 : s ≠ 0) (hgs : g ≠ s) (x y : Int) (hx : (g : Int) = x) (hy : (s : Int) = y) : Calls Try.prog 22 #[.pointer (some ⟨p, 0, none⟩), .int .i64 x, .int .i64 y] w (PGoes N p d fr n dn (turnS g s S) K P (.int .i64 0) w) := by
  subst hx hy
  have H := Aside0.mk h
  obtain ⟨a, q, kq, sq, c, h⟩ := h
  have HP := Aside0.mk h
  have hc3 : w.cell? ⟨p, 3, none⟩ = some (.slice (some ⟨sq, 0, none⟩) n c) := (blk_cell h.self 3).trans rfl
  have hn : n ≤ 16384 := h.alloc.range.2.1
  have H1 := Aside0.mk hg0
  have H2 := Aside0.mk hs0
  have H3 := Aside0.mk hgs
  clear h hg0 hs0 hgs
  go_enter Try.func22, Try.ntmps22
  go_wp2_with (first | (go_at_call 23; (with_reducible refine (pmade_calls H.out).mono ?_); rintro e w1 ⟨rfl, rfl⟩))
  go_loopw [17] (fun v wr => ∃ k : Nat, v = .int .i64 (k : Int) ∧ k ≤ n ∧ Aside0 (∃ q kq, PagerAt N wr p a q d kq sq c fr n dn (turnU g s S k) K P) ∧ Aside0 (Moves Mp N w wr)) (fun v _ => n - (intOf v).toNat)
  case atStart => exact ⟨0, rfl, by omega, ⟨q, kq, HP.out.congr (fun i _ => by unfold turnU; rw [if_neg (by omega)])⟩, ⟨Moves.refl _ _ _⟩⟩
  case round =>
    obtain ⟨k, rfl, hk, ⟨q1, kq1, hp⟩, HM⟩ := hrel
    by_cases g1 : k < n
    · have HQ := Aside0.mk hp
      have hst := hp.states.cell k g1
      rw [show turnU g s S k k = S k by unfold turnU; rw [if_neg (by omega)]] at hst
      have hst1 := hst.1
      have hst2 := hst.2
      have hcp : wr.cell? ⟨p, 3, none⟩ = some (.slice (some ⟨sq, 0, none⟩) n c) := (blk_cell hp.self 3).trans rfl
      have HK := Aside0.mk g1
      have i0 : (0 : Int) ≤ (k : Int) := by omega
      have i1 : (k : Int) < (n : Int) := by omega
      clear hst hp
      by_cases g2 : S k = g
      · have HN := Aside0.mk (turnU_goes (s := s) g2)
        have H0 := Aside0.mk (show turnU g s S k k ≠ 0 by unfold turnU; rw [if_neg (by omega), g2]; exact H1.out)
        have HIP := Aside0.mk (show IsPager N wr p d fr n dn (turnU g s S k) K P from ⟨a, q1, kq1, sq, c, HQ.out⟩)
        rw [g2] at hst1
        clear g2
        go_wp2_with (first | (go_at_call 35; (with_reducible refine (drop_calls HIP.out k HK.out H0.out _ rfl).mono ?_); rintro e w2 ⟨rfl, hp, hm⟩; have HP2 := Aside0.mk (HQ.out.again hm hp); have HM2 := Aside0.mk hm; clear hp hm))
        exact ⟨⟨k + 1, by go_num, by omega, ⟨by rw [← HN.out]; exact HP2.out⟩, ⟨HM.out.trans HM2.out⟩⟩, by simp [intOf]; omega⟩
      · by_cases g3 : S k = s
        · have HN := Aside0.mk (turnU_stays (s := s) g2 g3)
          have HS := Aside0.mk (HQ.out.set k 1 g1 (by decide) (by unfold turnU; rw [if_neg (by omega), g3]; exact H2.out) (by decide))
          have g4 : ¬ (s : Int) = (g : Int) := by have := H3.out; omega
          rw [g3] at hst1
          clear g2 g3
          go_wp2
          exact ⟨⟨k + 1, by go_num, by omega, ⟨by rw [← HN.out]; exact ⟨q1, kq1, HS.out.1⟩⟩, ⟨HM.out.trans HS.out.2⟩⟩, by simp [intOf]; omega⟩
        · have HN := Aside0.mk (turnU_none (s := s) g2 g3)
          obtain ⟨t, ht⟩ : ∃ t, S k = t := ⟨_, rfl⟩
          rw [ht] at hst1 g2 g3
          have g4 : ¬ (t : Int) = (g : Int) := by omega
          have g5 : ¬ (t : Int) = (s : Int) := by omega
          clear ht g2 g3
          go_wp2
          exact ⟨⟨k + 1, by go_num, by omega, ⟨by rw [← HN.out]; exact ⟨q1, kq1, HQ.out⟩⟩, HM⟩, by simp [intOf]; omega⟩
    · obtain rfl : k = n := by omega
      have HF := Aside0.mk (show IsPager N wr p d fr k dn (turnS g s S) K P from IsPager.congr ⟨a, q1, kq1, sq, c, hp⟩ (fun i hi => by unfold turnU turnS; rw [if_pos hi]))
      clear hp
      go_wp2
      go_ret
      exact ⟨rfl, HF.out, HM.out⟩
theorem Settle_calls {N : Nat} {w : World} {p d fr n dn : Nat} {S : Nat → Nat} {K : Nat → List Value} {P : List (List Value × Nat)} (h : IsPager N w p d fr n dn S K P) : Calls Try.prog 9 #[.pointer (some ⟨p, 0, none⟩)] w (PGoes N p d fr n dn (turnS 3 2 S) K P (.int .i64 0) w) := by
  have H := Aside0.mk h
  clear h
  go_enter Try.func9, Try.ntmps9
  go_wp2_with (first | (go_at_call 22; (with_reducible refine (turn_calls H.out 3 2 (by decide) (by decide) (by decide) 3 2 rfl rfl).mono ?_); rintro e w1 ⟨rfl, hp, hm⟩; have HP1 := Aside0.mk hp; have HM1 := Aside0.mk hm; clear hp hm))
  go_ret
  exact ⟨rfl, HP1.out, HM1.out⟩
theorem Undo_calls {N : Nat} {w : World} {p d fr n dn : Nat} {S : Nat → Nat} {K : Nat → List Value} {P : List (List Value × Nat)} (h : IsPager N w p d fr n dn S K P) : Calls Try.prog 13 #[.pointer (some ⟨p, 0, none⟩)] w (PGoes N p d fr n dn (turnS 2 3 S) K P (.int .i64 0) w) := by
  have H := Aside0.mk h
  clear h
  go_enter Try.func13, Try.ntmps13
  go_wp2_with (first | (go_at_call 22; (with_reducible refine (turn_calls H.out 2 3 (by decide) (by decide) (by decide) 2 3 rfl rfl).mono ?_); rintro e w1 ⟨rfl, hp, hm⟩; have HP1 := Aside0.mk hp; have HM1 := Aside0.mk hm; clear hp hm))
  go_ret
  exact ⟨rfl, HP1.out, HM1.out⟩
end Go.Proofs.Ytdjpohmgljhhcaa.A
