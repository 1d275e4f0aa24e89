/- Of any size any bytes stand in the chunks that the document says; of any chunks any bytes are told as it says. -/
import Derived.Test.YtlbfegnmkddlbaaN1
import Derived.Test.YtlbfegnmkddlbaaAx3
import Derived.Test.YtlbfegnmkddlbaaArgs
namespace Go.Proofs.Ytlbfegnmkddlbaa.A
open Go.RowKit Go.Proofs.YtlbfegnmkddlbaaW.PrintWords Go.Proofs.YtlbfegnmkddlbaaW.PrintLast Go.Proofs.YtlbfegnmkddlbaaW.PrintMore
set_option linter.unusedVariables false
set_option linter.unusedSimpArgs false
theorem rneed_ev (a0 a1 a2 : Int) : Ev (fun k => ambryref19_Need.f k a0 a1 a2) (NeedR a0 a1 a2) := by
  have bad : ¬ (0 ≤ a0 ∧ a0 ≤ 2560 ∧ 0 ≤ a1 ∧ a1 ≤ a0 ∧ 0 ≤ a2) → Ev (fun k => ambryref19_Need.j0 k a0 a1 a2 true) (NeedR a0 a1 a2) := fun h => by
    unfold NeedR
    rw [if_neg h]
    exact Ev.step (f := fun _ => some (0, 0, 2)) (fun k => by rw [ambryref19_Need.j0, if_pos rfl]) (Ev.now _)
  unfold ambryref19_Need.f
  by_cases h1 : a0 < 0
  · exact Ev.congr (f := fun k => ambryref19_Need.j0 k a0 a1 a2 true) (fun k => by rw [if_pos h1]) (bad (by omega))
  by_cases h2 : a0 > 2560
  · exact Ev.congr (f := fun k => ambryref19_Need.j0 k a0 a1 a2 true) (fun k => by rw [if_neg h1, if_pos h2]) (bad (by omega))
  by_cases h3 : a1 < 0
  · exact Ev.congr (f := fun k => ambryref19_Need.j0 k a0 a1 a2 true) (fun k => by rw [if_neg h1, if_neg h2, if_pos h3]) (bad (by omega))
  by_cases h4 : a1 > a0
  · exact Ev.congr (f := fun k => ambryref19_Need.j0 k a0 a1 a2 true) (fun k => by rw [if_neg h1, if_neg h2, if_neg h3, if_pos h4]) (bad (by omega))
  by_cases h5 : a2 < 0
  · exact Ev.congr (f := fun k => ambryref19_Need.j0 k a0 a1 a2 true) (fun k => by rw [if_neg h1, if_neg h2, if_neg h3, if_neg h4, decide_eq_true h5]) (bad (by omega))
  refine Ev.congr (f := fun k => ambryref19_Need.j0 k a0 a1 a2 false) (fun k => by rw [if_neg h1, if_neg h2, if_neg h3, if_neg h4, decide_eq_false h5]) ?_
  exact Ev.step (f := fun _ => some (NeedR a0 a1 a2)) (fun k => by rw [ambryref19_Need.j0, if_neg (by decide), need_tail a0 a1 a2 (by omega)]) (Ev.now _)
/-! ### few -/
def Few (l : List ByteArray) : Prop := l.length ≤ 100 ∧ ∀ (j : Nat) (h : j < l.length), l[j].size ≤ 10000
open Classical in
theorem few_loop (l : List ByteArray) (hn : l.length ≤ 100) : ∀ (d i : Nat), i + d = l.length → Ev (fun k => ambrylaw19_few.l0 k l (i : Int)) (decide (∀ (j : Nat) (h : j < l.length), i ≤ j → l[j].size ≤ 10000)) := by
  intro d
  induction d with
  | zero =>
    intro i hi
    exact Ev.step (f := fun _ => some true) (fun k => by rw [ambrylaw19_few.l0, if_neg (by omega)]) (ev_val (Ev.now _) (decide_eq_true (fun j h hj => by omega)).symm)
  | succ d ih =>
    intro i hi
    have hlt : i < l.length := by omega
    by_cases h0 : l[i].size ≤ 10000
    · refine Ev.step (f := fun k => ambrylaw19_few.l0 k l ((i + 1 : Nat) : Int)) (fun k => ?_) (ev_val (ih (i + 1) (by omega)) ?_)
      · have hw1 : wrap64 ((i : Int) + 1) = ((i + 1 : Nat) : Int) := by rw [wrap_ok _ (by omega) (by omega)]; rfl
        rw [ambrylaw19_few.l0, if_pos (by omega), if_pos (by omega), rdOf_at l i hlt, if_neg (by omega), hw1]
      · rw [decide_eq_decide]
        constructor
        · intro h j hj hij
          by_cases e : j = i
          · subst e
            exact h0
          · exact h j hj (by omega)
        · intro h j hj hij
          exact h j hj (by omega)
    · refine Ev.step (f := fun _ => some false) (fun k => ?_) (ev_val (Ev.now _) (decide_eq_false (fun h => h0 (h i hlt (Nat.le_refl _)))).symm)
      rw [ambrylaw19_few.l0, if_pos (by omega), if_pos (by omega), rdOf_at l i hlt, if_pos (by omega)]
open Classical in
theorem few_ev (l : List ByteArray) : Ev (fun k => ambrylaw19_few.f k l) (decide (Few l)) := by
  unfold ambrylaw19_few.f
  by_cases h : l.length ≤ 100
  · refine Ev.congr (f := fun k => ambrylaw19_few.l0 k l ((0 : Nat) : Int)) (fun k => by rw [if_neg (by omega)]; rfl) (ev_val (few_loop l h l.length 0 (by omega)) ?_)
    rw [decide_eq_decide]
    exact ⟨fun h2 => ⟨h, fun j hj => h2 j hj (Nat.zero_le _)⟩, fun h2 j hj _ => h2.2 j hj⟩
  · exact Ev.congr (f := fun _ => some false) (fun k => by rw [if_pos (by omega)]) (ev_val (Ev.now _) (decide_eq_false (fun h2 => h h2.1)).symm)
theorem few_lens (l : List ByteArray) (h : Few l) : lensB l ≤ 1000000 := by
  have key : ∀ (i : Nat), i ≤ l.length → lensB (l.take i) ≤ 10000 * i := by
    intro i
    induction i with
    | zero => intro _; simp [lensB]
    | succ i ih =>
      intro hi
      have h1 := lensB_take l i (by omega)
      have h2 := h.2 i (by omega)
      have h3 := ih (by omega)
      omega
  have h1 := key l.length (Nat.le_refl _)
  rw [List.take_length] at h1
  have h2 := h.1
  omega
/-! ### the document's teller of pieces -/
theorem JoinB_take (l : List ByteArray) (i : Nat) (h : i < l.length) : JoinB (l.take (i + 1)) = JoinB (l.take i) ++ l[i] := by
  apply ByteArray.ext
  apply Array.toList_inj.1
  rw [ByteArray.toList_data_append]
  show catB (l.take (i + 1)) = catB (l.take i) ++ _
  rw [catB_take l i h]
theorem rpiece2 (l : List ByteArray) (n A : Int) (hn : l.length ≤ 100) (hl : lensB l ≤ 1000000) (hA0 : 0 ≤ A) (hA : A ≤ (lensB l : Int)) (hN : 0 ≤ n) : ∀ (d i : Nat), i + d = l.length →
    Ev (fun k => ambryref19_Piece.l2 k l n A (lensB l : Int) (JoinB (l.take i)) (i : Int)) ((JoinB l).extract A.toNat (A + mn n ((lensB l : Int) - A)).toNat, 0) := by
  intro d
  induction d with
  | zero =>
    intro i hi
    obtain rfl : i = l.length := by omega
    rw [List.take_length]
    refine Ev.step (f := fun _ => some ((JoinB l).extract A.toNat (A + mn n ((lensB l : Int) - A)).toNat, 0)) (fun k => ?_) (Ev.now _)
    have hm := mn_is n ((lensB l : Int) - A)
    rw [ambryref19_Piece.l2, if_neg (by omega), if_pos hA0, wrap_ok ((lensB l : Int) - A) (by omega) (by omega), JoinB_size]
    generalize mn n ((lensB l : Int) - A) = m at hm
    rw [wrap_ok (A + m) (by omega) (by omega), if_pos (by omega), if_pos (by omega)]
  | succ d ih =>
    intro i hi
    have hlt : i < l.length := by omega
    have h1 := lensB_take l i hlt
    have h2 := lensB_le l (i + 1)
    refine Ev.step (f := fun k => ambryref19_Piece.l2 k l n A (lensB l : Int) (JoinB (l.take (i + 1))) ((i + 1 : Nat) : Int)) (fun k => ?_) (ih (i + 1) (by omega))
    have hw1 : Aside0 (wrap64 ((i : Int) + 1) = ((i + 1 : Nat) : Int)) := ⟨by rw [wrap_ok _ (by omega) (by omega)]; rfl⟩
    rw [ambryref19_Piece.l2, if_pos (by omega), if_pos (by omega), rdOf_at l i hlt, if_pos (by rw [JoinB_size]; omega), hw1.out, JoinB_take l i hlt]
open Classical in
theorem rpiece1 (l : List ByteArray) (n A : Int) (hn : l.length ≤ 100) (hl : lensB l ≤ 1000000) (hA0 : 0 ≤ A) (hA : A ≤ (lensB l : Int)) (hN : 0 ≤ n) : ∀ (d i : Nat), i + d = l.length →
    Ev (fun k => ambryref19_Piece.l1 k l n A (lensB l : Int) (i : Int)) (if (∀ (j : Nat) (h : j < l.length), i ≤ j → l[j].size ≠ 0 ∧ l[j].size ≤ 160 ∧ (j + 1 < l.length → l[j].size = 160)) then ((JoinB l).extract A.toNat (A + mn n ((lensB l : Int) - A)).toNat, 0) else (⟨#[]⟩, 4)) := by
  intro d
  induction d with
  | zero =>
    intro i hi
    rw [if_pos (fun j h hj => by omega)]
    exact Ev.step (f := fun k => ambryref19_Piece.l2 k l n A (lensB l : Int) (JoinB (l.take 0)) ((0 : Nat) : Int)) (fun k => by rw [ambryref19_Piece.l1, if_neg (by omega)]; rfl) (rpiece2 l n A hn hl hA0 hA hN l.length 0 (by omega))
  | succ d ih =>
    intro i hi
    have hlt : i < l.length := by omega
    have hw : Aside0 (wrap64 ((l.length : Int) - 1) = (l.length : Int) - 1) := ⟨wrap_ok _ (by omega) (by omega)⟩
    have hw1 : Aside0 (wrap64 ((i : Int) + 1) = ((i + 1 : Nat) : Int)) := ⟨by rw [wrap_ok _ (by omega) (by omega)]; rfl⟩
    have head : ∀ k, ambryref19_Piece.l1 (k + 1) l n A (lensB l : Int) (i : Int) = if l[i].size ≠ 0 ∧ l[i].size ≤ 160 ∧ (i + 1 < l.length → l[i].size = 160) then ambryref19_Piece.l1 k l n A (lensB l : Int) ((i + 1 : Nat) : Int) else some (⟨#[]⟩, 4) := fun k => by
      rw [ambryref19_Piece.l1, if_pos (by omega), rdOf_at l i hlt, hw.out, hw1.out]
      by_cases h1 : (i : Int) < (l.length : Int) - 1
      · rw [if_pos h1, if_pos (by omega)]
        by_cases h2 : (l[i].size : Int) = 160
        · rw [if_pos h2, if_neg (by omega), if_neg (by omega), if_pos ⟨by omega, by omega, fun _ => by omega⟩]
        · rw [if_neg h2, if_neg (fun h => h2 (by have := h.2.2 (by omega); omega))]
      · rw [if_neg h1, if_pos (by omega)]
        by_cases h2 : (l[i].size : Int) = 0
        · rw [if_pos h2, if_neg (fun h => h.1 (by omega))]
        rw [if_neg h2]
        by_cases h3 : (l[i].size : Int) > 160
        · rw [if_pos h3, if_neg (fun h => by have := h.2.1; omega)]
        · rw [if_neg h3, if_pos ⟨by omega, by omega, fun h => by omega⟩]
    by_cases hg : l[i].size ≠ 0 ∧ l[i].size ≤ 160 ∧ (i + 1 < l.length → l[i].size = 160)
    · refine Ev.step (f := fun k => ambryref19_Piece.l1 k l n A (lensB l : Int) ((i + 1 : Nat) : Int)) (fun k => by rw [head, if_pos hg]) (ev_val (ih (i + 1) (by omega)) ?_)
      by_cases hr : ∀ (j : Nat) (h : j < l.length), i + 1 ≤ j → l[j].size ≠ 0 ∧ l[j].size ≤ 160 ∧ (j + 1 < l.length → l[j].size = 160)
      · rw [if_pos hr, if_pos]
        intro j hj hij
        by_cases e : j = i
        · subst e
          exact hg
        · exact hr j hj (by omega)
      · rw [if_neg hr, if_neg]
        intro h
        exact hr (fun j hj hij => h j hj (by omega))
    · rw [if_neg (fun h => hg (h i hlt (Nat.le_refl _)))]
      exact Ev.step (f := fun _ => some (⟨#[]⟩, 4)) (fun k => by rw [head, if_neg hg]) (Ev.now _)
open Classical in
theorem rpiece0 (l : List ByteArray) (n A : Int) (hn : l.length ≤ 100) (hl : lensB l ≤ 1000000) (hA0 : 0 ≤ A) (hN : 0 ≤ n) : ∀ (d i : Nat), i + d = l.length →
    Ev (fun k => ambryref19_Piece.l0 k l n A (lensB (l.take i) : Int) (i : Int)) (if A > (lensB l : Int) then (⟨#[]⟩, 2) else if Formed l then ((JoinB l).extract A.toNat (A + mn n ((lensB l : Int) - A)).toNat, 0) else (⟨#[]⟩, 4)) := by
  intro d
  induction d with
  | zero =>
    intro i hi
    obtain rfl : i = l.length := by omega
    rw [List.take_length]
    by_cases h : A > (lensB l : Int)
    · rw [if_pos h]
      exact Ev.step (f := fun _ => some (⟨#[]⟩, 2)) (fun k => by rw [ambryref19_Piece.l0, if_neg (by omega), if_pos h]) (Ev.now _)
    · rw [if_neg h]
      refine Ev.step (f := fun k => ambryref19_Piece.l1 k l n A (lensB l : Int) ((0 : Nat) : Int)) (fun k => by rw [ambryref19_Piece.l0, if_neg (by omega), if_neg h]; rfl) (ev_val (rpiece1 l n A hn hl hA0 (by omega) hN l.length 0 (by omega)) ?_)
      by_cases hf : Formed l
      · rw [if_pos hf, if_pos (fun j hj _ => hf j hj)]
      · rw [if_neg hf, if_neg (fun h2 => hf (fun j hj => h2 j hj (Nat.zero_le _)))]
  | succ d ih =>
    intro i hi
    have hlt : i < l.length := by omega
    have h1 := lensB_take l i hlt
    have h2 := lensB_le l (i + 1)
    have hw1 : Aside0 (wrap64 ((i : Int) + 1) = ((i + 1 : Nat) : Int)) := ⟨by rw [wrap_ok _ (by omega) (by omega)]; rfl⟩
    have hw2 : Aside0 (wrap64 ((lensB (l.take i) : Int) + (l[i].size : Int)) = (lensB (l.take (i + 1)) : Int)) := ⟨by rw [wrap_ok _ (by omega) (by omega)]; omega⟩
    exact Ev.step (f := fun k => ambryref19_Piece.l0 k l n A (lensB (l.take (i + 1)) : Int) ((i + 1 : Nat) : Int)) (fun k => by rw [ambryref19_Piece.l0, if_pos (by omega), if_pos (by omega), rdOf_at l i hlt, hw1.out, hw2.out]) (ih (i + 1) (by omega))
open Classical in
theorem rpiece_ev (l : List ByteArray) (first a n : Int) (hn : l.length ≤ 100) (hl : lensB l ≤ 1000000) (ha : a ≤ 9223372036854775807) : Ev (fun k => ambryref19_Piece.f k l first a n) (PieceR l first a n) := by
  have bad : ¬ (0 ≤ first ∧ 0 ≤ a ∧ 0 ≤ n ∧ first ≤ a / 160) → Ev (fun k => ambryref19_Piece.j0 k l first a n true) (PieceR l first a n) := fun h => by
    unfold PieceR
    rw [if_neg h]
    exact Ev.step (f := fun _ => some (⟨#[]⟩, 2)) (fun k => by rw [ambryref19_Piece.j0, if_pos rfl]) (Ev.now _)
  unfold ambryref19_Piece.f
  by_cases h1 : first < 0
  · exact Ev.congr (f := fun k => ambryref19_Piece.j0 k l first a n true) (fun k => by rw [if_pos h1]) (bad (by omega))
  by_cases h2 : a < 0
  · exact Ev.congr (f := fun k => ambryref19_Piece.j0 k l first a n true) (fun k => by rw [if_neg h1, if_pos h2]) (bad (by omega))
  by_cases h3 : n < 0
  · exact Ev.congr (f := fun k => ambryref19_Piece.j0 k l first a n true) (fun k => by rw [if_neg h1, if_neg h2, if_pos h3]) (bad (by omega))
  have e1 : Aside0 (wrap64 (Int.tdiv a 160) = a / 160) := ⟨by rw [Int.tdiv_eq_ediv_of_nonneg (by omega), wrap_ok _ (by omega) (by omega)]⟩
  by_cases h4 : first > a / 160
  · exact Ev.congr (f := fun k => ambryref19_Piece.j0 k l first a n true) (fun k => by rw [if_neg h1, if_neg h2, if_neg h3, e1.out, decide_eq_true h4]) (bad (by omega))
  refine Ev.congr (f := fun k => ambryref19_Piece.j0 k l first a n false) (fun k => by rw [if_neg h1, if_neg h2, if_neg h3, e1.out, decide_eq_false h4]) ?_
  have e2 : Aside0 (wrap64 (a - wrap64 (first * 160)) = a - first * 160) := ⟨by rw [wrap_ok (first * 160) (by omega) (by omega), wrap_ok _ (by omega) (by omega)]⟩
  unfold PieceR
  rw [if_pos ⟨by omega, by omega, by omega, by omega⟩]
  exact Ev.step (f := fun k => ambryref19_Piece.l0 k l n (a - first * 160) (lensB (l.take 0) : Int) ((0 : Nat) : Int)) (fun k => by rw [ambryref19_Piece.j0, if_neg (by decide), e2.out]; rfl) (rpiece0 l n (a - first * 160) hn hl (by omega) (by omega) l.length 0 (by omega))
open Classical in
theorem pureBlobNeeds (size f n : Int) (l : List ByteArray) (first : Int) (hs : (Lit.int .i64 size).wf = true) (hf : (Lit.int .i64 f).wf = true) (hn : (Lit.int .i64 n).wf = true) (hl : TextsOk l) (ht : (Lit.int .i64 first).wf = true) : ∃ k, ambrylaw19_BlobNeeds.f k size f n l first = some true := by
  have hf' : -9223372036854775808 ≤ f ∧ f ≤ 9223372036854775807 := by simpa [Lit.wf, IntKind.min, IntKind.max, IntKind.bits, IntKind.signed] using hf
  refine Ev.rounds (r := true) ?_
  unfold ambrylaw19_BlobNeeds.f
  refine Ev.bind (few_ev l) ?_
  by_cases h : Few l
  · have hl := few_lens l h
    have hn := h.1
    refine Ev.congr (f := fun k => (blob_Need.f k size f n).bind fun bt144 => ((ambryref19_Need.f k size f n).bind fun bt147 => ((blob_Piece.f k l first f n).bind fun bt150 => ((ambryref19_Piece.f k l first f n).bind fun bt152 => (if bt144.1 = bt147.1 then (if bt144.2.1 = bt147.2.1 then (if bt144.2.2 = bt147.2.2 then (if bt150.1.toList = bt152.1.toList then (if bt150.2 = bt152.2 then ((ambrylaw19_lives.f k).bind fun t154 => (some t154)) else (some false)) else (some false)) else (some false)) else (some false)) else (some false)))))) (fun k => by rw [decide_eq_true h, if_pos rfl]) ?_
    refine Ev.bind (need_ev _ _ _) (Ev.bind (rneed_ev _ _ _) (Ev.bind (piece_ev l first f n (by omega) (by omega) hf'.2) (Ev.bind (rpiece_ev l first f n hn hl hf'.2) ?_)))
    exact Ev.congr (f := fun k => (ambrylaw19_lives.f k).bind fun t => some t) (fun k => by rw [if_pos rfl, if_pos rfl, if_pos rfl, if_pos rfl, if_pos rfl]) lives_then
  · exact Ev.congr (f := fun k => (ambrylaw19_lives.f k).bind fun t => some t) (fun k => by rw [decide_eq_false h, if_neg (by decide)]) lives_then
end Go.Proofs.Ytlbfegnmkddlbaa.A
