/- Write and Rewrite of a page. -/
import Derived.Test.YtdjpohmgljhhcaaX20
namespace Go.Proofs.Ytdjpohmgljhhcaa.A
open Go.RowKit Go.Proofs.YtdjpohmgljhhcaaW.PrintWords Go.Proofs.YtdjpohmgljhhcaaW.PrintLast Go.Proofs.YtdjpohmgljhhcaaW.PrintMore
set_option linter.unusedVariables false
set_option linter.unusedSimpArgs false
set_option maxHeartbeats 4000000
set_option maxRecDepth 100000
theorem Take_one {w : World} {p q n : Nat} {T : Nat → Bool} (h : IsAlloc w p q n T) (i : Nat) (hi : i < n) (h0 : T i = false) (h1 : ∀ j, j < i → T j = true) : Calls Try.prog 27 #[.pointer (some ⟨p, 0, none⟩), .int .i64 1] w fun e w' => e = .returned (.tuple #[.int .i64 (i : Int), .int .i64 0]) ∧ IsAlloc w' p q n (setT T i 1 true) ∧ Own q w w' := by
  have hr : RowAt T n i 1 := ⟨by omega, fun j a b => by rw [show j = i by omega]; exact h0⟩
  refine (Take_calls h 1 (by decide)).mono ?_
  rintro e w' ⟨j, er, T', rfl, hr2, ha, ho⟩
  rcases hr2 with ⟨g, _⟩ | ⟨_, g1, g2, rfl, rfl⟩ | ⟨_, g1, _⟩
  · omega
  · have : j = i := by
      rcases Nat.lt_trichotomy j i with g | g | g
      · have := g1.2 j (Nat.le_refl _) (by show j < j + 1; omega)
        rw [h1 j g] at this
        simp at this
      · exact g
      · exact absurd hr (g2 i g)
    subst this
    exact ⟨rfl, ha, ho⟩
  · exact absurd hr (g1 i)
theorem Take_full {w : World} {p q n : Nat} {T : Nat → Bool} (h : IsAlloc w p q n T) (h1 : ∀ j, j < n → T j = true) : Calls Try.prog 27 #[.pointer (some ⟨p, 0, none⟩), .int .i64 1] w fun e w' => e = .returned (.tuple #[.int .i64 0, .int .i64 10]) ∧ IsAlloc w' p q n T ∧ Own q w w' := by
  refine (Take_calls h 1 (by decide)).mono ?_
  rintro e w' ⟨j, er, T', rfl, hr2, ha, ho⟩
  rcases hr2 with ⟨g, _⟩ | ⟨_, g1, g2, rfl, rfl⟩ | ⟨_, g1, rfl, rfl, rfl⟩
  · omega
  · have hj : j < n := by have := g1.1; show j < n; have h2 : (1 : Int).toNat = 1 := rfl; omega
    have := g1.2 j (Nat.le_refl _) (by show j < j + 1; omega)
    rw [h1 j hj] at this
    simp at this
  · exact ⟨rfl, ha, ho⟩
theorem PagerAt.took {N : Nat} {w w1 w2 : World} {p a q d kq sq c fr n dn : Nat} {S : Nat → Nat} {K : Nat → List Value} {P P' : List (List Value × Nat)} (h : PagerAt N w p a q d kq sq c fr n dn S K P) (ho : Own q w w1) (i : Nat) (hi : i < n) (ha : IsAlloc w1 a q n (tk n (upd S i 2))) (hm : Moves Md N w1 w2) (hd : IsDisk N w2 d kq dn K P') :
    PagerAt N (w2.setCell ⟨sq, i, none⟩ (.int .i64 2)) p a q d kq sq c fr n dn (upd S i 2) K P' ∧ Moves Mp N w (w2.setCell ⟨sq, i, none⟩ (.int .i64 2)) := by
  have hm1 : Moves (fun t => t == 77) N w w1 := Own.moves h.alloc ho rfl h.bq
  have hst : StatesAt w2 sq n S := (h.states.moves hm1 rfl).moves hm rfl
  obtain ⟨sc, s1, s2⟩ := hst
  have hm2 : Moves (fun t => t == 60) N w2 (w2.setCell ⟨sq, i, none⟩ (.int .i64 2)) := (Moves.refl _ N w2).set s1 rfl h.bs i _
  have hself : w2.heap[p]? = some (.cells #[.pointer (some ⟨a, 0, none⟩), .pointer (some ⟨d, 0, none⟩), .int .i64 (fr : Int), .slice (some ⟨sq, 0, none⟩) n c] 50 (0, 0)) := by
    have h1 := (hm1.old _ _ _ _ h.self rfl).trans h.self
    exact (hm.old _ _ _ _ h1 rfl).trans h1
  constructor
  · exact {
      self := (hm2.old _ _ _ _ hself rfl).trans hself
      alloc := (ha.moves hm rfl rfl).moves hm2 rfl rfl
      disk := hd.moves hm2 rfl rfl rfl
      states := StatesAt.put ⟨sc, s1, s2⟩ i hi 2
      vals := by
        intro j hj
        unfold upd
        split
        · decide
        · exact h.vals j hj
      bq := h.bq
      bs := h.bs
      geo := h.geo }
  · exact (hm1.mono (fun t ht => by simp [Mp] at ht ⊢; simp [ht]) (Nat.le_refl _)).trans ((hm.mono Md_Mp (Nat.le_refl _)).trans (hm2.mono (fun t ht => by simp [Mp] at ht ⊢; simp [ht]) (Nat.le_refl _)))
theorem PagerAt.own {N : Nat} {w w1 : World} {p a q d kq sq c fr n dn : Nat} {S : Nat → Nat} {K : Nat → List Value} {P : List (List Value × Nat)} (h : PagerAt N w p a q d kq sq c fr n dn S K P) (ho : Own q w w1) (ha : IsAlloc w1 a q n (tk n S)) : PagerAt N w1 p a q d kq sq c fr n dn S K P ∧ Moves Mp N w w1 := by
  have hm1 : Moves (fun t => t == 77) N w w1 := Own.moves h.alloc ho rfl h.bq
  exact ⟨⟨(hm1.old _ _ _ _ h.self rfl).trans h.self, ha, h.disk.moves hm1 rfl rfl rfl, h.states.moves hm1 rfl, h.vals, h.bq, h.bs, h.geo⟩, hm1.mono (fun t ht => by simp [Mp] at ht ⊢; simp [ht]) (Nat.le_refl _)⟩
/-- What Write of a page tells. -/
def WSays (N p d fr n dn : Nat) (S : Nat → Nat) (K : Nat → List Value) (P : List (List Value × Nat)) (cs : List Value) (w : World) (e : Ending) (w' : World) : Prop :=
  (1024 < cs.length ∧ e = .returned (.tuple #[.int .i64 0, .int .i64 5]) ∧ w = w') ∨
  (cs.length ≤ 1024 ∧ ∃ i, i < n ∧ S i = 0 ∧ (∀ j, j < i → S j ≠ 0) ∧ e = .returned (.tuple #[.int .i64 ((i : Nat) : Int), .int .i64 0]) ∧ IsPager N w' p d fr n dn (upd S i 2) K (P ++ wrote fr i cs 8) ∧ Moves Mp N w w') ∨
  (cs.length ≤ 1024 ∧ (∀ j, j < n → S j ≠ 0) ∧ e = .returned (.tuple #[.int .i64 0, .int .i64 10]) ∧ IsPager N w' p d fr n dn S K P ∧ Moves Mp N w w')
theorem least_free (n : Nat) (S : Nat → Nat) : (∃ i, i < n ∧ S i = 0 ∧ ∀ j, j < i → S j ≠ 0) ∨ ∀ j, j < n → S j ≠ 0 := by
  induction n with
  | zero => exact Or.inr (fun j hj => by omega)
  | succ n ih =>
    rcases ih with ⟨i, h1, h2, h3⟩ | h
    · exact Or.inl ⟨i, by omega, h2, h3⟩
    · by_cases g : S n = 0
      · exact Or.inl ⟨n, by omega, g, fun j hj => h j hj⟩
      · exact Or.inr (fun j hj => by
          by_cases e : j = n
          · rw [e]; exact g
          · exact h j (by omega))
theorem Write_calls {N : Nat} {w : World} {p d fr n dn : Nat} {S : Nat → Nat} {K : Nat → List Value} {P : List (List Value × Nat)} (h : IsPager N w p d fr n dn S K P) (hP : P.length ≤ 90000) (A : Option Addr) (len cap : Nat) (cs : List Value) (hb : BytesAt w A len cs) :
    Calls Try.prog 15 #[.pointer (some ⟨p, 0, none⟩), .slice A len cap] w (WSays N p d fr n dn S K P cs w) := by
  have H := Aside0.mk h
  have HB := Aside0.mk hb
  obtain rfl := hb.len
  by_cases g0 : 1024 < cs.length
  · have g1 : (1024 : Int) < ((cs.length : Nat) : Int) := by omega
    have HG := Aside0.mk g0
    clear hb h
    obtain ⟨len, hlen⟩ : ∃ len, cs.length = len := ⟨_, rfl⟩
    have HLEN := Aside0.mk hlen
    rw [hlen] at HB HG g1 g0 ⊢
    clear hlen g0
    go_enter Try.func15, Try.ntmps15
    go_wp2_with (first | (go_at_call 23; (with_reducible refine (pmade_calls H.out).mono ?_); rintro e w1 ⟨rfl, rfl⟩))
    go_ret2
    exact Or.inl ⟨by rw [HLEN.out]; exact HG.out, rfl, rfl⟩
  · have g1 : ¬ (1024 : Int) < ((cs.length : Nat) : Int) := by omega
    have HG := Aside0.mk (show cs.length ≤ 1024 by omega)
    obtain ⟨a, q, kq, sq, c, h⟩ := h
    have HP := Aside0.mk h
    have hc0 : w.cell? ⟨p, 0, none⟩ = some (.pointer (some ⟨a, 0, none⟩)) := (blk_cell h.self 0).trans rfl
    rcases least_free n S with ⟨i, h1, h2, h3⟩ | h3
    · have HI := Aside0.mk h1
      have H2 := Aside0.mk h2
      have H3 := Aside0.mk h3
      have HT0 := Aside0.mk (show tk n S i = false by simp [tk, h2])
      have HT1 := Aside0.mk (show ∀ j, j < i → tk n S j = true by intro j hj; simp [tk, h3 j hj]; omega)
      have i0 : (0 : Int) ≤ (i : Int) := by omega
      have i1 : (i : Int) < (n : Int) := by omega
      clear hb h h1 h2 h3 g0
      obtain ⟨len, hlen⟩ : ∃ len, cs.length = len := ⟨_, rfl⟩
      have HLEN := Aside0.mk hlen
      rw [hlen] at HB HG g1 ⊢
      clear hlen
      go_enter Try.func15, Try.ntmps15
      go_wp2_with (first | (go_at_call 23; (with_reducible refine (pmade_calls H.out).mono ?_); rintro e w1 ⟨rfl, rfl⟩) | (go_at_call 27; (with_reducible refine (Take_one HP.out.alloc i HI.out HT0.out HT1.out).mono ?_); rintro e w1 ⟨rfl, ha, ho⟩; have HA1 := Aside0.mk (show IsAlloc w1 a q n (tk n (upd S i 2)) by rw [← tk_upd n S i 2 HI.out true rfl]; exact ha); have HO1 := Aside0.mk ho; have hm1 := Own.moves (M := fun t => t == 77) HP.out.alloc ho rfl HP.out.bq; have HC1 := Aside0.mk (show PCore N w1 p a d kq sq c fr n dn K P from ⟨(hm1.old _ _ _ _ HP.out.self rfl).trans HP.out.self, HP.out.disk.moves hm1 rfl rfl rfl, HP.out.geo⟩); have HB1 := Aside0.mk (HB.out.moves (hm1.mono (M' := Mp) (fun t ht => by simp [Mp] at ht ⊢; simp [ht]) (Nat.le_refl _))); have HST1 := Aside0.mk (HP.out.states.moves hm1 rfl); clear ha ho hm1) | (go_at_call 28; (with_reducible refine (over_calls HC1.out hP i HI.out A len cap cs HB1.out (by rw [HLEN.out]; exact HG.out) _ rfl).mono ?_); rintro e w2 ⟨rfl, hd2, hm2⟩; have HF := Aside0.mk (HP.out.took HO1.out i HI.out HA1.out hm2 hd2); have hs2 := (hm2.old _ _ _ _ HC1.out.self rfl).trans HC1.out.self; have hc32 : w2.cell? ⟨p, 3, none⟩ = some (.slice (some ⟨sq, 0, none⟩) n c) := (blk_cell hs2 3).trans rfl; have hst := (HST1.out.moves hm2 rfl).cell i HI.out; have hst1 := hst.1; have hst2 := hst.2; clear hd2 hm2 hs2 hst))
      go_ret2
      exact Or.inr (Or.inl ⟨by rw [HLEN.out]; exact HG.out, i, HI.out, H2.out, H3.out, rfl, ⟨a, q, kq, sq, c, HF.out.1⟩, HF.out.2⟩)
    · have H3 := Aside0.mk h3
      have HT1 := Aside0.mk (show ∀ j, j < n → tk n S j = true by intro j hj; simp [tk, h3 j hj, hj])
      clear hb h h3 g0
      obtain ⟨len, hlen⟩ : ∃ len, cs.length = len := ⟨_, rfl⟩
      have HLEN := Aside0.mk hlen
      rw [hlen] at HB HG g1 ⊢
      clear hlen
      go_enter Try.func15, Try.ntmps15
      go_wp2_with (first | (go_at_call 23; (with_reducible refine (pmade_calls H.out).mono ?_); rintro e w1 ⟨rfl, rfl⟩) | (go_at_call 27; (with_reducible refine (Take_full HP.out.alloc HT1.out).mono ?_); rintro e w1 ⟨rfl, ha, ho⟩; have HF := Aside0.mk (HP.out.own ho ha); clear ha ho))
      go_ret2
      exact Or.inr (Or.inr ⟨by rw [HLEN.out]; exact HG.out, H3.out, rfl, ⟨a, q, kq, sq, c, HF.out.1⟩, HF.out.2⟩)
/-- What a call leaves that may write a page's sectors. -/
def DiskSays (N p d fr n dn : Nat) (S : Nat → Nat) (K : Nat → List Value) (m : Nat) (w : World) (e : Ending) (w' : World) : Prop := ∃ (er : Int) (P' : List (List Value × Nat)), e = .returned (.int .i64 er) ∧ IsPager N w' p d fr n dn S K P' ∧ P'.length ≤ m + 8 ∧ Moves Mp N w w'
theorem Rewrite_calls {N : Nat} {w : World} {p d fr n dn : Nat} {S : Nat → Nat} {K : Nat → List Value} {P : List (List Value × Nat)} (h : IsPager N w p d fr n dn S K P) (hP : P.length ≤ 90000) (i : Int) (A : Option Addr) (len cap : Nat) (cs : List Value) (hb : BytesAt w A len cs) :
    Calls Try.prog 18 #[.pointer (some ⟨p, 0, none⟩), .int .i64 i, .slice A len cap] w (DiskSays N p d fr n dn S K P.length w) := by
  have H := Aside0.mk h
  have HB := Aside0.mk hb
  obtain rfl := hb.len
  obtain ⟨len, hlen⟩ : ∃ len, cs.length = len := ⟨_, rfl⟩
  have HLEN := Aside0.mk hlen
  rw [hlen] at HB ⊢
  clear hb hlen
  by_cases g0 : 1024 < len
  · have g1 : (1024 : Int) < (len : Int) := by omega
    clear h g0
    go_enter Try.func18, Try.ntmps18
    go_wp2_with (first | (go_at_call 23; (with_reducible refine (pmade_calls H.out).mono ?_); rintro e w1 ⟨rfl, rfl⟩))
    go_ret
    exact ⟨5, P, rfl, H.out, by omega, Moves.refl _ _ _⟩
  · have g1 : ¬ (1024 : Int) < (len : Int) := by omega
    have HG := Aside0.mk (show len ≤ 1024 by omega)
    clear g0
    by_cases g : 0 ≤ i ∧ i < (n : Int)
    · obtain ⟨I, rfl⟩ : ∃ I : Nat, (I : Int) = i := ⟨i.toNat, by omega⟩
      have HI := Aside0.mk (show I < n by omega)
      have HBB := Aside0.mk (show true = decide (0 ≤ (I : Int) ∧ (I : Int) < (n : Int)) from (decide_eq_true g).symm)
      obtain ⟨a, q, kq, sq, c, h⟩ := h
      have HP := Aside0.mk h
      have hc3 : w.cell? ⟨p, 3, none⟩ = some (.slice (some ⟨sq, 0, none⟩) n c) := (blk_cell h.self 3).trans rfl
      have hst1 := (h.states.cell I HI.out).1
      have i0 : (0 : Int) ≤ (I : Int) := by omega
      have i1 : (I : Int) < (n : Int) := by omega
      have HC := Aside0.mk h.core
      clear h g
      obtain ⟨s, hs⟩ : ∃ s, S I = s := ⟨_, rfl⟩
      rw [hs] at hst1
      by_cases g2 : s = 2
      · subst g2
        have g3 : ((2 : Nat) : Int) = 2 := rfl
        rw [g3] at hst1
        clear hs g3
        go_enter Try.func18, Try.ntmps18
        go_wp2_with (first | (go_at_call 23; (with_reducible refine (pmade_calls H.out).mono ?_); rintro e w1 ⟨rfl, rfl⟩) | (go_at_call 30; (with_reducible refine (there_calls H.out _ true HBB.out).mono ?_); rintro e w1 ⟨rfl, rfl⟩) | (go_at_call 28; (with_reducible refine (over_calls HC.out hP I HI.out A len cap cs HB.out (by rw [HLEN.out]; exact HG.out) _ rfl).mono ?_); rintro e w2 ⟨rfl, hd2, hm2⟩; have HF := Aside0.mk (HP.out.wrote hm2 hd2); have HM2 := Aside0.mk hm2; clear hd2 hm2))
        go_ret
        exact ⟨0, _, rfl, ⟨a, q, kq, sq, c, HF.out⟩, by rw [List.length_append, wrote_len]; exact Nat.le_refl _, HM2.out.mono Md_Mp (Nat.le_refl _)⟩
      · have g3 : ((s : Int) != 2) = true := by rw [bne_iff_ne]; omega
        clear hs g2
        go_enter Try.func18, Try.ntmps18
        go_wp2_with (first | (go_at_call 23; (with_reducible refine (pmade_calls H.out).mono ?_); rintro e w1 ⟨rfl, rfl⟩) | (go_at_call 30; (with_reducible refine (there_calls H.out _ true HBB.out).mono ?_); rintro e w1 ⟨rfl, rfl⟩))
        go_ret
        exact ⟨7, P, rfl, H.out, by omega, Moves.refl _ _ _⟩
    · have HBB := Aside0.mk (show false = decide (0 ≤ i ∧ i < (n : Int)) from (decide_eq_false g).symm)
      clear g h
      go_enter Try.func18, Try.ntmps18
      go_wp2_with (first | (go_at_call 23; (with_reducible refine (pmade_calls H.out).mono ?_); rintro e w1 ⟨rfl, rfl⟩) | (go_at_call 30; (with_reducible refine (there_calls H.out _ false HBB.out).mono ?_); rintro e w1 ⟨rfl, rfl⟩))
      go_ret
      exact ⟨7, P, rfl, H.out, by omega, Moves.refl _ _ _⟩
end Go.Proofs.Ytdjpohmgljhhcaa.A
