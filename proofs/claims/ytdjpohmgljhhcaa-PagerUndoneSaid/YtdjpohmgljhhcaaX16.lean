/- A pager in memory; New, made, there, taken. -/
import Derived.Test.YtdjpohmgljhhcaaX15
namespace Go.Proofs.Ytdjpohmgljhhcaa.A
open Go.RowKit Go.Proofs.YtdjpohmgljhhcaaW.PrintWords Go.Proofs.YtdjpohmgljhhcaaW.PrintLast Go.Proofs.YtdjpohmgljhhcaaW.PrintMore
set_option linter.unusedVariables false
set_option linter.unusedSimpArgs false
set_option maxHeartbeats 4000000
set_option maxRecDepth 100000
/-- Which pages are taken, by what they are. -/
def tk (n : Nat) (S : Nat → Nat) : Nat → Bool := fun x => decide (x < n) && decide (S x ≠ 0)
/-- What pages are, in memory. -/
def StatesAt (w : World) (sq n : Nat) (S : Nat → Nat) : Prop := ∃ sc, w.heap[sq]? = some (.cells sc 60 (0, 0)) ∧ ∀ i, i < n → sc[i]? = some (.int .i64 (S i : Int))
/-- A pager: its struct at p, its alloc at a (words at q), its disk at d (sectors at kq), its states at sq. -/
structure PagerAt (N : Nat) (w : World) (p a q d kq sq c fr n dn : Nat) (S : Nat → Nat) (K : Nat → List Value) (P : List (List Value × Nat)) : Prop where
  self : w.heap[p]? = some (.cells #[.pointer (some ⟨a, 0, none⟩), .pointer (some ⟨d, 0, none⟩), .int .i64 (fr : Int), .slice (some ⟨sq, 0, none⟩) n c] 50 (0, 0))
  alloc : IsAlloc w a q n (tk n S)
  disk : IsDisk N w d kq dn K P
  states : StatesAt w sq n S
  vals : ∀ i, i < n → S i ≤ 3
  bq : N ≤ q
  bs : N ≤ sq
  geo : fr + n * 8 ≤ dn
def IsPager (N : Nat) (w : World) (p d fr n dn : Nat) (S : Nat → Nat) (K : Nat → List Value) (P : List (List Value × Nat)) : Prop := ∃ a q kq sq c, PagerAt N w p a q d kq sq c fr n dn S K P
theorem IsDisk.lt {N : Nat} {w : World} {d kq n : Nat} {K : Nat → List Value} {P : List (List Value × Nat)} (h : IsDisk N w d kq n K P) : N ≤ w.heap.size ∧ n ≤ 16384 := by
  obtain ⟨pv, h⟩ := h
  exact ⟨h.lt, h.most⟩
theorem PagerAt.grown {N : Nat} {w w' : World} {p a q d kq sq c fr n dn : Nat} {S : Nat → Nat} {K : Nat → List Value} {P : List (List Value × Nat)} (h : PagerAt N w p a q d kq sq c fr n dn S K P) (hb : Below w.heap.size w w') : PagerAt N w' p a q d kq sq c fr n dn S K P := by
  obtain ⟨sc, s1, s2⟩ := h.states
  exact ⟨blk_below h.self hb, h.alloc.grown hb, h.disk.grown hb, ⟨sc, blk_below s1 hb, s2⟩, h.vals, h.bq, h.bs, h.geo⟩
theorem IsPager.grown {N : Nat} {w w' : World} {p d fr n dn : Nat} {S : Nat → Nat} {K : Nat → List Value} {P : List (List Value × Nat)} (h : IsPager N w p d fr n dn S K P) (hb : Below w.heap.size w w') : IsPager N w' p d fr n dn S K P := by
  obtain ⟨a, q, kq, sq, c, h⟩ := h
  exact ⟨a, q, kq, sq, c, h.grown hb⟩
theorem IsPager.drawn {N : Nat} {w w' : World} {p d fr n dn : Nat} {S : Nat → Nat} {K : Nat → List Value} {P : List (List Value × Nat)} (h : IsPager N w p d fr n dn S K P) (hb : Drawn0 w w') : IsPager N w' p d fr n dn S K P := h.grown hb.below
theorem IsPager.lt {N : Nat} {w : World} {p d fr n dn : Nat} {S : Nat → Nat} {K : Nat → List Value} {P : List (List Value × Nat)} (h : IsPager N w p d fr n dn S K P) : N ≤ w.heap.size := by
  obtain ⟨a, q, kq, sq, c, h⟩ := h
  exact h.disk.lt.1
theorem IsPager.range {N : Nat} {w : World} {p d fr n dn : Nat} {S : Nat → Nat} {K : Nat → List Value} {P : List (List Value × Nat)} (h : IsPager N w p d fr n dn S K P) : 1 ≤ n ∧ n ≤ 16384 ∧ fr + n * 8 ≤ dn ∧ dn ≤ 16384 := by
  obtain ⟨a, q, kq, sq, c, h⟩ := h
  exact ⟨h.alloc.range.1, h.alloc.range.2.1, h.geo, h.disk.lt.2⟩
/-- A state stored. -/
theorem StatesAt.put {w : World} {sq n : Nat} {S : Nat → Nat} (h : StatesAt w sq n S) (i : Nat) (hi : i < n) (s : Nat) : StatesAt (w.setCell ⟨sq, i, none⟩ (.int .i64 (s : Int))) sq n (fun x => if x = i then s else S x) := by
  obtain ⟨sc, s1, s2⟩ := h
  refine ⟨_, blk_setCell_self s1 _, fun j hj => ?_⟩
  have hl : i < sc.size := by
    have := s2 i hi
    rcases Nat.lt_or_ge i sc.size with hl | hg
    · exact hl
    · rw [Array.getElem?_eq_none hg] at this; simp at this
  rw [Array.getElem?_setIfInBounds]
  by_cases e : i = j
  · subst e; simp [hl]
  · rw [if_neg e]
    show sc[j]? = some (.int .i64 ((if j = i then s else S j : Nat) : Int))
    rw [if_neg (Ne.symm e)]
    exact s2 j hj
theorem StatesAt.cell {w : World} {sq n : Nat} {S : Nat → Nat} (h : StatesAt w sq n S) (i : Nat) (hi : i < n) : w.cell? ⟨sq, i, none⟩ = some (.int .i64 (S i : Int)) ∧ w.frozen? ⟨sq, i, none⟩ = false := by
  obtain ⟨sc, s1, s2⟩ := h
  exact ⟨(blk_cell s1 i).trans (s2 i hi), by simp [World.frozen?, s1]⟩
theorem StatesAt.moves {M : TypeId → Bool} {N : Nat} {w w' : World} {sq n : Nat} {S : Nat → Nat} (h : StatesAt w sq n S) (hm : Moves M N w w') (h1 : M 60 = false) : StatesAt w' sq n S := by
  obtain ⟨sc, s1, s2⟩ := h
  exact ⟨sc, (hm.old _ _ _ _ s1 h1).trans s1, s2⟩
theorem pmade_calls {N : Nat} {w : World} {p d fr n dn : Nat} {S : Nat → Nat} {K : Nat → List Value} {P : List (List Value × Nat)} (h : IsPager N w p d fr n dn S K P) : Calls Try.prog 23 #[.pointer (some ⟨p, 0, none⟩)] w fun e w' => e = .returned (.bool true) ∧ w = w' := by
  obtain ⟨a, q, kq, sq, c, h⟩ := h
  have hc : w.cell? ⟨p, 1, none⟩ = some (.pointer (some ⟨d, 0, none⟩)) := (blk_cell h.self 1).trans rfl
  clear h
  go_enter Try.func23, Try.ntmps23
  go_wp2
  go_ret
  exact ⟨rfl, rfl⟩
theorem pmade_nil (w : World) : Calls Try.prog 23 #[.pointer none] w fun e w' => e = .returned (.bool false) ∧ w = w' := by
  go_enter Try.func23, Try.ntmps23
  go_wp2
  go_ret
  exact ⟨rfl, rfl⟩
theorem pmade_zero (w : World) (p : Nat) (v0 v2 v3 : Value) (h : w.heap[p]? = some (.cells #[v0, .pointer none, v2, v3] 50 (0, 0))) : Calls Try.prog 23 #[.pointer (some ⟨p, 0, none⟩)] w fun e w' => e = .returned (.bool false) ∧ w = w' := by
  have hc : w.cell? ⟨p, 1, none⟩ = some (.pointer none) := (blk_cell h 1).trans rfl
  clear h
  go_enter Try.func23, Try.ntmps23
  go_wp2
  go_ret
  exact ⟨rfl, rfl⟩
theorem there_calls {N : Nat} {w : World} {p d fr n dn : Nat} {S : Nat → Nat} {K : Nat → List Value} {P : List (List Value × Nat)} (h : IsPager N w p d fr n dn S K P) (i : Int) (b : Bool) (hb : b = decide (0 ≤ i ∧ i < (n : Int))) : Calls Try.prog 30 #[.pointer (some ⟨p, 0, none⟩), .int .i64 i] w fun e w' => e = .returned (.bool b) ∧ w = w' := by
  obtain ⟨a, q, kq, sq, c, h⟩ := h
  have hc : w.cell? ⟨p, 3, none⟩ = some (.slice (some ⟨sq, 0, none⟩) n c) := (blk_cell h.self 3).trans rfl
  have HB := Aside0.mk hb
  clear h hb
  by_cases g0 : 0 ≤ i
  · by_cases g1 : i < (n : Int)
    · have HT := Aside0.mk (show b = true by rw [HB.out]; exact decide_eq_true ⟨g0, g1⟩)
      go_enter Try.func30, Try.ntmps30
      go_wp2
      go_ret
      exact ⟨by rw [HT.out]; rfl, rfl⟩
    · have HT := Aside0.mk (show b = false by rw [HB.out]; exact decide_eq_false (fun h => g1 h.2))
      go_enter Try.func30, Try.ntmps30
      go_wp2
      go_ret
      exact ⟨by rw [HT.out]; rfl, rfl⟩
  · have HT := Aside0.mk (show b = false by rw [HB.out]; exact decide_eq_false (fun h => g0 h.1))
    go_enter Try.func30, Try.ntmps30
    go_wp2
    go_ret
    exact ⟨by rw [HT.out]; rfl, rfl⟩
theorem taken_calls (w : World) (s : Nat) (b : Bool) (hb : b = decide (s ≠ 0)) (x : Int) (hx : (s : Int) = x) : Calls Try.prog 31 #[.int .i64 x] w fun e w' => e = .returned (.bool b) ∧ w = w' := by
  subst hx
  have HB := Aside0.mk hb
  clear hb
  by_cases g : s = 0
  · subst g
    go_enter Try.func31, Try.ntmps31
    go_wp2
    go_ret
    exact ⟨by rw [HB.out]; rfl, rfl⟩
  · have g2 : ((s : Int) != 0) = true := by rw [bne_iff_ne]; omega
    have HT := Aside0.mk (show b = true by rw [HB.out]; exact decide_eq_true g)
    go_enter Try.func31, Try.ntmps31
    go_wp2
    go_ret
    exact ⟨by rw [HT.out]; rfl, rfl⟩
end Go.Proofs.Ytdjpohmgljhhcaa.A
