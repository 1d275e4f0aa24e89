/- set. -/
import Derived.Test.YtdjpohmgljhhcaaX2
import Derived.Below
import Derived.Deep.Draws
import Derived.Deep.AppendLies
import Derived.Maps.AppendAt
import Derived.OwnWalk
import Derived.Laws.BytesArg
import Derived.Laws.MakeOwn
import Derived.Laws.OwnMore
import Derived.Deep.OwnRows
import Derived.Tactics
import Derived.Lib.ConvBytes
import Derived.Laws.Slices
import Derived.WalkKit
import Derived.KernelRfl
import Derived.RowKit3
import Derived.Deep.LoopGhost
import Derived.Deep.QuietTactic
import Derived.BigQuiet
import Derived.WideLaws
import Derived.Deep.DeepCutAuto
import Derived.Deep.CutBlock
import Derived.Deep.RegionHeld3
import Derived.Laws.Rows
import Derived.Lib.AppendStr
import Derived.ArgAppend
import Derived.Laws.IdiomCopy
import Derived.OrdersHeld
import Derived.Laws.BitsLemmas
import Derived.RowKit
import Derived.Laws.Cover1
import Derived.Deep.RegionWith
import Derived.Deep.RegionLaw
import Derived.WalkMore
import Derived.ScopeJumps
import Derived.Test.YtdjpohmgljhhcaaWWords
import Derived.Test.YtdjpohmgljhhcaaWLast
import Derived.Test.YtdjpohmgljhhcaaWTab
import Derived.Test.YtdjpohmgljhhcaaWFour
import Derived.Test.YtdjpohmgljhhcaaWQPut
import Derived.Test.YtdjpohmgljhhcaaWApart
import Derived.Test.YtdjpohmgljhhcaaWArr
import Derived.Test.YtdjpohmgljhhcaaWZeros
import Derived.Test.YtdjpohmgljhhcaaWFoot
import Derived.Test.YtdjpohmgljhhcaaWKept
import Derived.Test.YtdjpohmgljhhcaaWShare
import Derived.Test.YtdjpohmgljhhcaaWN
import Derived.Test.YtdjpohmgljhhcaaWFootNe
import Derived.Test.YtdjpohmgljhhcaaWAt
import Derived.Test.YtdjpohmgljhhcaaWEqStruct
import Derived.Test.YtdjpohmgljhhcaaWRepsOne
import Derived.Test.YtdjpohmgljhhcaaWInv
import Derived.Test.YtdjpohmgljhhcaaWInvWords
import Derived.Test.YtdjpohmgljhhcaaWGuard
import Derived.Test.YtdjpohmgljhhcaaWNEv
import Derived.Test.YtdjpohmgljhhcaaWMore
import Derived.Laws.BitsAllLaws
namespace Go.Proofs.Ytdjpohmgljhhcaa.A
open Go.RowKit Go.Proofs.YtdjpohmgljhhcaaW.PrintWords Go.Proofs.YtdjpohmgljhhcaaW.PrintLast Go.Proofs.YtdjpohmgljhhcaaW.PrintMore
set_option linter.unusedVariables false
set_option maxHeartbeats 1000000
set_option maxRecDepth 100000
/-- All old blocks but one are as they were. -/
structure Own (q : Nat) (w w' : World) : Prop where
  os : w'.os = w.os
  tape : w'.tape = w.tape
  output : w'.output = w.output
  size : w.heap.size ≤ w'.heap.size
  block : ∀ k, k < w.heap.size → k ≠ q → w'.heap[k]? = w.heap[k]?
theorem Own.refl (q : Nat) (w : World) : Own q w w := ⟨rfl, rfl, rfl, Nat.le_refl _, fun _ _ _ => rfl⟩
theorem Own.trans {q : Nat} {a b c : World} (h : Own q a b) (k : Own q b c) : Own q a c :=
  ⟨k.os.trans h.os, k.tape.trans h.tape, k.output.trans h.output, Nat.le_trans h.size k.size, fun i hi hq => (k.block i (Nat.lt_of_lt_of_le hi h.size) hq).trans (h.block i hi hq)⟩
theorem Own.of_below {q : Nat} {a b : World} (h : Below a.heap.size a b) : Own q a b := ⟨h.os, h.tape, h.output, h.size, fun k hk _ => h.block k hk⟩
theorem Own.drawn {q : Nat} {a b : World} (h : Drawn0 a b) : Own q a b := .of_below h.below
theorem Own.setCell (w : World) (q o : Nat) (v : Value) : Own q w (w.setCell ⟨q, o, none⟩ v) :=
  ⟨rfl, rfl, rfl, by simp [World.setCell], fun k _ hq => Below.heap_setCell w _ v k hq⟩
theorem Own.below {q N : Nat} {a b : World} (h : Own q a b) (hq : N ≤ q) (hN : N ≤ a.heap.size) : Below N a b :=
  ⟨h.os, h.tape, h.output, h.size, fun k hk => h.block k (by omega) (by omega)⟩
theorem blk_lt {w : World} {b : Nat} {o : Obj} (h : w.heap[b]? = some o) : b < w.heap.size := by
  rcases Nat.lt_or_ge b w.heap.size with hl | hg
  · exact hl
  · rw [Array.getElem?_eq_none hg] at h; simp at h
/-- An alloc lies still while another one's words are written. -/
theorem IsAlloc.own {w w' : World} {p q n r : Nat} {T : Nat → Bool} (h : IsAlloc w p q n T) (ho : Own r w w') (h1 : p ≠ r) (h2 : q ≠ r) : IsAlloc w' p q n T := by
  obtain ⟨c, cells, u, h⟩ := h
  exact ⟨c, cells, u, (ho.block p (blk_lt h.self) h1).trans h.self, (ho.block q (blk_lt h.words) h2).trans h.words, h.cap, h.cell, h.lt, h.bit, h.out, h.apart, h.one, h.most⟩
theorem blk_setCell_self {w : World} {q o : Nat} {cells : Array Value} {e : TypeId} {f : Nat × Nat} (h : w.heap[q]? = some (.cells cells e f)) (v : Value) : (w.setCell ⟨q, o, none⟩ v).heap[q]? = some (.cells (cells.setIfInBounds o v) e f) := by
  simp [World.setCell, Array.getElem?_modify, h]
theorem AllocAt.drawn {w w' : World} {p q n c : Nat} {T : Nat → Bool} {cells : Array Value} {u : Nat → Nat} (h : AllocAt w p q n T c cells u) (hg : Drawn0 w w') : AllocAt w' p q n T c cells u :=
  ⟨blk_below h.self hg.below, blk_below h.words hg.below, h.cap, h.cell, h.lt, h.bit, h.out, h.apart, h.one, h.most⟩
/-- One word written. -/
theorem AllocAt.put {w : World} {p q n c : Nat} {T T' : Nat → Bool} {cells : Array Value} {u : Nat → Nat} (h : AllocAt w p q n T c cells u) {W U : Nat} (hW : W < wordsOf n) (hU : U < 18446744073709551616)
    (hT : ∀ j, j < 64 → U.testBit j = T' (64 * W + j)) (hR : ∀ x, x / 64 ≠ W → T' x = T x) (ho : ∀ x, n ≤ x → T' x = false) :
    AllocAt (w.setCell ⟨q, W, none⟩ (.int .u64 (U : Int))) p q n T' c (cells.setIfInBounds W (.int .u64 (U : Int))) (fun x => if x = W then U else u x) where
  self := (Below.heap_setCell w _ _ p h.apart).trans h.self
  words := blk_setCell_self h.words _
  cap := h.cap
  cell := by
    intro i hi
    have hl : W < cells.size := by
      have := h.cell W hW
      rcases Nat.lt_or_ge W cells.size with hl | hg
      · exact hl
      · rw [Array.getElem?_eq_none hg] at this; simp at this
    rw [Array.getElem?_setIfInBounds]
    by_cases e : W = i
    · subst e; simp [hl]
    · rw [if_neg e, if_neg (Ne.symm e)]; exact h.cell i hi
  lt := by intro i; split; exact hU; exact h.lt i
  bit := by
    intro i j hi hj
    split
    · rename_i e; subst e; exact hT j hj
    · rename_i e
      rw [h.bit i j hi hj, hR]
      omega
  out := ho
  apart := h.apart
  one := h.one
  most := h.most
/-- The pages with so many taken, or free. -/
def setT (T : Nat → Bool) (i k : Nat) (tk : Bool) : Nat → Bool := fun x => if i ≤ x ∧ x < i + k then tk else T x
theorem or_bit (u j x : Nat) (hx : x < 64) : (u ||| 2 ^ j).testBit x = if x = j then true else u.testBit x := by
  rw [Nat.testBit_or, Nat.testBit_two_pow]
  by_cases e : x = j
  · simp [e]
  · rw [if_neg e, decide_eq_false (fun h => e h.symm), Bool.or_false]
theorem andNot_bit (u j x : Nat) (hj : j < 64) (hx : x < 64) : (u &&& (18446744073709551615 - 2 ^ j)).testBit x = if x = j then false else u.testBit x := by
  rw [Nat.testBit_and, show (18446744073709551615 : Nat) - 2 ^ j = 2 ^ 64 - (2 ^ j + 1) by omega, Nat.testBit_two_pow_sub_succ (Nat.pow_lt_pow_right (by decide) hj), Nat.testBit_two_pow]
  by_cases e : x = j
  · simp [e]
  · rw [if_neg e, decide_eq_false (fun h : j = x => e h.symm)]; simp [hx]
theorem setT_snoc (T : Nat → Bool) (i k : Nat) (tk : Bool) (x : Nat) : setT T i (k + 1) tk x = if x = i + k then tk else setT T i k tk x := by
  unfold setT
  by_cases h1 : x = i + k
  · rw [if_pos (by omega), if_pos h1]
  · rw [if_neg h1]
    by_cases h2 : i ≤ x ∧ x < i + k
    · rw [if_pos (by omega), if_pos h2]
    · rw [if_neg (by omega), if_neg h2]
theorem setT_nil (T : Nat → Bool) (i : Nat) (tk : Bool) : setT T i 0 tk = T := by
  funext x
  unfold setT
  rw [if_neg (by omega)]
theorem set_word (n p W j x : Nat) (hW : p / 64 = W) (hj : p % 64 = j) (hx : x < 64) : (64 * W + x = p) ↔ x = j := by omega
set_option maxHeartbeats 4000000 in
theorem set_calls {w : World} {p q n : Nat} {T : Nat → Bool} (h : IsAlloc w p q n T) (i k : Nat) (hi : i + k ≤ n) (tk : Bool) (x y : Int) (hx : (i : Int) = x) (hy : (k : Int) = y) : Calls Try.prog 46 #[.pointer (some ⟨p, 0, none⟩), .int .i64 x, .int .i64 y, .bool tk] w fun e w' => e = .returned (.tuple #[]) ∧ IsAlloc w' p q n (setT T i k tk) ∧ Own q w w' := by
  subst hx hy
  have HA := Aside0.mk h
  have hn : n ≤ 16384 := by
    obtain ⟨c, cells, u, h⟩ := h
    exact h.most
  clear h
  go_enter Try.func46, Try.ntmps46
  go_wp2
  go_loopw [8] (fun vp wr => ∃ j : Nat, j ≤ k ∧ vp = .int .i64 ((i + j : Nat) : Int) ∧ Aside0 (IsAlloc wr p q n (setT T i j tk)) ∧ Aside0 (Own q w wr)) (fun vp _ => i + k - (intOf vp).toNat)
  case atStart => exact ⟨0, Nat.zero_le _, rfl, ⟨by rw [setT_nil]; exact HA.out⟩, ⟨.refl _ _⟩⟩
  case round =>
    obtain ⟨j, hj, rfl, HR, HO⟩ := hrel
    obtain ⟨z, hz⟩ : ∃ z, i + j = z := ⟨_, rfl⟩
    rw [hz]
    by_cases g1 : j < k
    · obtain ⟨W, hWe⟩ : ∃ W, z / 64 = W := ⟨_, rfl⟩
      obtain ⟨J, hJe⟩ : ∃ J, z % 64 = J := ⟨_, rfl⟩
      obtain ⟨B, hBe⟩ : ∃ B, 2 ^ J = B := ⟨_, rfl⟩
      obtain ⟨c, cells, u, hr⟩ := HR.out
      have HH := Aside0.mk hr
      have hW : W < wordsOf n := by unfold wordsOf; omega
      have hc1 : wr.cell? ⟨p, 1, none⟩ = some (.slice (some ⟨q, 0, none⟩) (wordsOf n) c) := (blk_cell hr.self 1).trans rfl
      have hcq : wr.cell? ⟨q, W, none⟩ = some (.int .u64 (u W : Int)) := (blk_cell hr.words W).trans (hr.cell _ hW)
      have hb0 : (0 : Int) ≤ (W : Int) := by omega
      have hb1 : (W : Int) < (wordsOf n : Int) := by omega
      have hz1 : (z : Int) < (i : Int) + (k : Int) := by omega
      have HI := Aside0.mk (show z ≤ 1048576 by omega)
      have HW := Aside0.mk hWe
      have HB := Aside0.mk (show 2 ^ (z % 64) = B by rw [hJe, hBe])
      have hJ : J < 64 := by omega
      have hBl : B < 18446744073709551616 := by
        have : 2 ^ J < 2 ^ 64 := Nat.pow_lt_pow_right (by decide) hJ
        omega
      have hfr : wr.frozen? ⟨q, W, none⟩ = false := by simp [World.frozen?, hr.words]
      cases tk with
      | true =>
        have hU := u64_or_nat (u W) B (hr.lt _) hBl
        have hUl : u W ||| B < 18446744073709551616 := Nat.or_lt_two_pow (n := 64) (hr.lt _) hBl
        have HN := Aside0.mk (show ∀ m, IsAlloc ((wr.drewN m).setCell ⟨q, W, none⟩ (.int .u64 ((u W ||| B : Nat) : Int))) p q n (setT T i (j + 1) true) from fun m => ⟨_, _, _, (hr.drawn ⟨⟨m, rfl⟩⟩).put (T' := setT T i (j + 1) true) hW hUl
          (by
            intro a ha
            rw [← hBe, or_bit _ _ _ ha, setT_snoc, hz, hr.bit _ _ hW ha]
            by_cases e : a = J
            · rw [if_pos e, if_pos (by omega)]
            · rw [if_neg e, if_neg (by omega)])
          (by
            intro a ha
            rw [setT_snoc, if_neg]
            intro e
            exact ha (by rw [e, hz, hWe]))
          (by
            intro a ha
            rw [setT_snoc, if_neg (by omega)]
            exact hr.out a ha)⟩)
        clear hUl hr hJ hBl hBe hJe hW hWe
        generalize u W ||| B = U at *
        generalize u W = uW at *
        go_wp2_with (first | (go_at_call 53; (with_reducible refine (bit_calls z W B HI.out HW.out HB.out _).mono ?_); rintro e w1 ⟨rfl, ⟨m1, rfl⟩⟩))
        exact ⟨⟨j + 1, by omega, by rw [← hz]; go_num, ⟨HN.out _⟩, ⟨HO.out.trans ((Own.drawn ⟨⟨_, rfl⟩⟩).trans (Own.setCell _ _ _ _))⟩⟩, by simp [intOf]; omega⟩
      | false =>
        have hU := u64_andNot_nat (u W) B (hr.lt _) hBl
        have hUl : u W &&& (18446744073709551615 - B) < 18446744073709551616 := Nat.lt_of_le_of_lt Nat.and_le_left (hr.lt _)
        have HN := Aside0.mk (show ∀ m, IsAlloc ((wr.drewN m).setCell ⟨q, W, none⟩ (.int .u64 ((u W &&& (18446744073709551615 - B) : Nat) : Int))) p q n (setT T i (j + 1) false) from fun m => ⟨_, _, _, (hr.drawn ⟨⟨m, rfl⟩⟩).put (T' := setT T i (j + 1) false) hW hUl
          (by
            intro a ha
            rw [← hBe, andNot_bit _ _ _ hJ ha, setT_snoc, hz, hr.bit _ _ hW ha]
            by_cases e : a = J
            · rw [if_pos e, if_pos (by omega)]
            · rw [if_neg e, if_neg (by omega)])
          (by
            intro a ha
            rw [setT_snoc, if_neg]
            intro e
            exact ha (by rw [e, hz, hWe]))
          (by
            intro a ha
            rw [setT_snoc, if_neg (by omega)]
            exact hr.out a ha)⟩)
        clear hUl hr hJ hBl hBe hJe hW hWe
        generalize u W &&& (18446744073709551615 - B) = U at *
        generalize u W = uW at *
        go_wp2_with (first | (go_at_call 53; (with_reducible refine (bit_calls z W B HI.out HW.out HB.out _).mono ?_); rintro e w1 ⟨rfl, ⟨m1, rfl⟩⟩))
        exact ⟨⟨j + 1, by omega, by rw [← hz]; go_num, ⟨HN.out _⟩, ⟨HO.out.trans ((Own.drawn ⟨⟨_, rfl⟩⟩).trans (Own.setCell _ _ _ _))⟩⟩, by simp [intOf]; omega⟩
    · have hz1 : ¬ (z : Int) < (i : Int) + (k : Int) := by omega
      have HE := Aside0.mk (show j = k by omega)
      go_wp2
      go_end0
      exact ⟨rfl, by rw [← HE.out]; exact HR.out, HO.out⟩
end Go.Proofs.Ytdjpohmgljhhcaa.A
