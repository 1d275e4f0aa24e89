/- Same. -/
import Derived.Test.YtagplafbdmjagaaV10
import Derived.ChangeKeysEq
import Derived.Below
import Derived.Deep.Draws
import Derived.Deep.AppendLies
import Derived.Maps.AppendAt
import Derived.OwnWalk
import Derived.Laws.BytesArg
import Derived.Laws.MakeOwn
import Derived.Laws.OwnMore
import Derived.Deep.OwnRows
import Derived.Tactics
import Derived.Lib.ConvBytes
import Derived.Laws.Slices
import Derived.WalkKit
import Derived.KernelRfl
import Derived.RowKit3
import Derived.Deep.LoopGhost
import Derived.Deep.QuietTactic
import Derived.BigQuiet
import Derived.WideLaws
import Derived.Deep.DeepCutAuto
import Derived.Deep.CutBlock
import Derived.Deep.RegionHeld3
import Derived.Laws.Rows
import Derived.Lib.AppendStr
import Derived.ArgAppend
import Derived.Laws.IdiomCopy
import Derived.OrdersHeld
import Derived.Laws.BitsLemmas
import Derived.RowKit
import Derived.Laws.Cover1
import Derived.Deep.RegionWith
import Derived.Deep.RegionLaw
import Derived.WalkMore
import Derived.ScopeJumps
import Derived.Test.YtagplafbdmjagaaWWords
import Derived.Test.YtagplafbdmjagaaWLast
import Derived.Test.YtagplafbdmjagaaWTab
import Derived.Test.YtagplafbdmjagaaWFour
import Derived.Test.YtagplafbdmjagaaWQPut
import Derived.Test.YtagplafbdmjagaaWApart
import Derived.Test.YtagplafbdmjagaaWArr
import Derived.Test.YtagplafbdmjagaaWZeros
import Derived.Test.YtagplafbdmjagaaWFoot
import Derived.Test.YtagplafbdmjagaaWKept
import Derived.Test.YtagplafbdmjagaaWShare
import Derived.Test.YtagplafbdmjagaaWN
import Derived.Test.YtagplafbdmjagaaWFootNe
import Derived.Test.YtagplafbdmjagaaWAt
import Derived.Test.YtagplafbdmjagaaWEqStruct
import Derived.Test.YtagplafbdmjagaaWRepsOne
import Derived.Test.YtagplafbdmjagaaWInv
import Derived.Test.YtagplafbdmjagaaWInvWords
import Derived.Test.YtagplafbdmjagaaWGuard
import Derived.Test.YtagplafbdmjagaaWNEv
import Derived.Test.YtagplafbdmjagaaWMore
import Derived.Laws.BitsAllLaws
namespace Go.Proofs.Ytagplafbdmjagaa.A
open Go.RowKit Go.Proofs.YtagplafbdmjagaaW.PrintWords Go.Proofs.YtagplafbdmjagaaW.PrintLast Go.Proofs.YtagplafbdmjagaaW.PrintMore
set_option linter.unusedVariables false
set_option maxHeartbeats 4000000
set_option maxRecDepth 100000
/-- A slice of rows, to be read. -/
structure RowsIn (w : World) (v : Value) (A : Option Addr) (c : Nat) (L : List (Nat × Nat)) : Prop where
  val : v = .slice A L.length c
  cell : ∀ j, j < L.length → ∃ g, A = some ⟨g, 0, none⟩ ∧ w.cell? ⟨g, j * 2, none⟩ = some (.int .i64 ((L.getD j (0, 0)).1 : Int)) ∧ w.cell? ⟨g, j * 2 + 1, none⟩ = some (.int .i64 ((L.getD j (0, 0)).2 : Int))
theorem flat_at (L : List (Nat × Nat)) (j : Nat) (hj : j < L.length) : (flat L)[j * 2]? = some (.int .i64 ((L.getD j (0, 0)).1 : Int)) ∧ (flat L)[j * 2 + 1]? = some (.int .i64 ((L.getD j (0, 0)).2 : Int)) := by
  induction L generalizing j with
  | nil => simp at hj
  | cons r l ih =>
    cases j with
    | zero => simp [flat]
    | succ j =>
      have := ih j (by simpa using hj)
      rw [show (j + 1) * 2 = j * 2 + 1 + 1 by omega, show j * 2 + 1 + 1 + 1 = (j * 2 + 1) + 1 + 1 by omega]
      simpa [flat] using this
theorem OwnRows.inside {w : World} {base : Nat} {v : Value} {L : List (Nat × Nat)} (h : OwnRows w base v L) : ∃ A c, RowsIn w v A c L := by
  obtain ⟨h1, h2⟩ := h
  rcases h2 with ⟨rfl, h0⟩ | ⟨g, cap, cur, rfl, e2, e3, e4, e5, e6, e7⟩
  · exact ⟨none, 0, by rw [h0], fun j hj => by omega⟩
  · refine ⟨_, cap, rfl, fun j hj => ⟨g, rfl, ?_, ?_⟩⟩
    · refine (blk_cell e3 _).trans ?_
      have := (flat_at L j hj).1
      rw [← e7, List.getElem?_take, if_pos (by omega)] at this
      simpa using this
    · refine (blk_cell e3 _).trans ?_
      have := (flat_at L j hj).2
      rw [← e7, List.getElem?_take, if_pos (by omega)] at this
      simpa using this
theorem RowsIn.below {w w' : World} {v : Value} {A : Option Addr} {c : Nat} {L : List (Nat × Nat)} (h : RowsIn w v A c L) (hb : Below w.heap.size w w') : RowsIn w' v A c L where
  val := h.val
  cell := by
    intro j hj
    obtain ⟨g, e, h1, h2⟩ := h.cell j hj
    have hl : g < w.heap.size := World.block_lt_of_cell? w ⟨g, j * 2, none⟩ h1
    exact ⟨g, e, (hb.cell (p := ⟨g, j * 2, none⟩) hl).trans h1, (hb.cell (p := ⟨g, j * 2 + 1, none⟩) hl).trans h2⟩
theorem part_i (xs : Array Value) (o : Nat) (v : Int) (h : xs[o]? = some (.int .i64 v)) (w : World) : (part 3 xs o).run Try.prog w = .ok (.int .i64 v) w := by
  simp [part, h]
theorem eq_i (d : Nat) (a b : Int) (w : World) : (Op.equalIn (d + 1) 3 (.int .i64 a) (.int .i64 b)).run Try.prog w = .ok (a == b) w := by
  simp [Op.equalIn, run_underlying (P := Try.prog) Try.underlying3]
theorem neq_rows (a b c d : Int) (w : World) : Sem.run Try.prog (binOp BinOp.neq 28 (.agg #[.int .i64 a, .int .i64 b]) (.agg #[.int .i64 c, .int .i64 d])) w = .ok (.bool (!(a == c && b == d))) w := by
  have hi0 : (Try.prog.info? 3).map (fun i => i.size) = some 1 := by kernel_rfl
  obtain ⟨i, hi, -⟩ := Option.map_eq_some_iff.1 hi0
  have hc : Try.prog.cellsOf 3 = 1 := by kernel_rfl
  have e : ∀ D, (Op.equalIn (D + 2) 28 (.agg #[.int .i64 a, .int .i64 b]) (.agg #[.int .i64 c, .int .i64 d])).run Try.prog w = .ok (a == c && b == d) w := by
    intro D
    rw [run_equalIn_array (P := Try.prog) (w := w) (D + 1) _ _ Try.underlying28 hi, hc]
    simp only [List.range, List.range.loop, Op.eqItems, Sem.run_bind]
    rw [part_i _ _ a rfl, Result.andThen_ok, part_i _ _ c rfl, Result.andThen_ok, eq_i, Result.andThen_ok]
    cases (a == c)
    · simp
    · simp only [Bool.not_true, Bool.false_eq_true, if_false, Sem.run_bind]
      rw [part_i _ _ b rfl, Result.andThen_ok, part_i _ _ d rfl, Result.andThen_ok, eq_i, Result.andThen_ok]
      cases (b == d) <;> simp
  have e2 := e (Op.maxDepth - 2)
  rw [show Op.maxDepth - 2 + 2 = Op.maxDepth from by kernel_rfl] at e2
  show Sem.run Try.prog (do pure (Value.bool (!(← Op.equal 28 _ _)))) w = _
  simp only [Op.equal, Sem.run_bind, e2, Result.andThen_ok, Sem.run_pure]
theorem same_len {w : World} {v1 v2 : Value} {A1 A2 : Option Addr} {c1 c2 : Nat} {L1 L2 : List (Nat × Nat)} (h1 : RowsIn w v1 A1 c1 L1) (h2 : RowsIn w v2 A2 c2 L2) (hl1 : L1.length ≤ 16400) (hl2 : L2.length ≤ 16400) (hne : L1.length ≠ L2.length) : Calls Try.prog 13 #[v1, v2] w fun e w' => e = .returned (.bool (decide (L1 = L2))) ∧ Drawn0 w w' := by
  obtain ⟨rfl, -⟩ := h1
  obtain ⟨rfl, -⟩ := h2
  have HD := Aside0.mk (show decide (L1 = L2) = false from decide_eq_false (fun e => hne (by rw [e])))
  have hne2 : ¬ ((L1.length : Nat) : Int) = (L2.length : Int) := by omega
  generalize L1.length = n1 at *
  generalize L2.length = n2 at *
  go_enter Try.func13, Try.ntmps13
  go_wp2
  go_ret
  exact ⟨by rw [HD.out]; rfl, Drawn0.refl _⟩
theorem take_eq (L1 L2 : List (Nat × Nat)) (j : Nat) (h1 : j < L1.length) (h2 : j < L2.length) (ht : L1.take j = L2.take j) (hj : L1.getD j (0, 0) = L2.getD j (0, 0)) : L1.take (j + 1) = L2.take (j + 1) := by
  rw [List.take_add_one, List.take_add_one, ht]
  rw [List.getD_eq_getElem?_getD, List.getD_eq_getElem?_getD, List.getElem?_eq_getElem h1, List.getElem?_eq_getElem h2] at hj
  rw [List.getElem?_eq_getElem h1, List.getElem?_eq_getElem h2]
  simp only [Option.getD_some] at hj
  rw [hj]
theorem same_eq {w : World} {v1 v2 : Value} {A1 A2 : Option Addr} {c1 c2 : Nat} {L1 L2 : List (Nat × Nat)} (h1 : RowsIn w v1 A1 c1 L1) (h2 : RowsIn w v2 A2 c2 L2) (hl1 : L1.length ≤ 16400) (he : L1.length = L2.length) : Calls Try.prog 13 #[v1, v2] w fun e w' => e = .returned (.bool (decide (L1 = L2))) ∧ Drawn0 w w' := by
  have H1 := Aside0.mk h1
  have H2 := Aside0.mk h2
  obtain ⟨rfl, -⟩ := h1
  obtain ⟨rfl, -⟩ := h2
  obtain ⟨n1, hn1⟩ : ∃ n1, L1.length = n1 := ⟨_, rfl⟩
  have HN1 := Aside0.mk hn1
  have HN2 := Aside0.mk (he.symm.trans hn1)
  rw [← he, hn1]
  rw [hn1] at hl1
  clear he hn1
  go_enter Try.func13, Try.ntmps13
  go_wp2
  go_loopw [5] (fun vi wr => ∃ j : Nat, vi = .int .i64 j ∧ j ≤ n1 ∧ Aside0 (L1.take j = L2.take j) ∧ Drawn0 w wr) (fun vi _ => n1 - (intOf vi).toNat)
  case atStart => exact ⟨0, rfl, by omega, ⟨by simp⟩, by repeat (first | exact Drawn0.refl _ | apply Drawn0.step)⟩
  case round =>
    obtain ⟨j, rfl, hj, HT, ⟨nd, rfl⟩⟩ := hrel
    by_cases g1 : j < n1
    · obtain ⟨ga, ea, ca1, ca2⟩ := H1.out.cell j (by rw [HN1.out]; exact g1)
      obtain ⟨gb, eb, cb1, cb2⟩ := H2.out.cell j (by rw [HN2.out]; exact g1)
      by_cases g2 : L1.getD j (0, 0) = L2.getD j (0, 0)
      · have HT2 := Aside0.mk (take_eq L1 L2 j (by rw [HN1.out]; exact g1) (by rw [HN2.out]; exact g1) HT.out g2)
        rw [← g2] at cb1 cb2
        clear g2
        generalize (L1.getD j (0, 0)).1 = x1 at *
        generalize (L1.getD j (0, 0)).2 = x2 at *
        subst ea eb
        have b0 : (0 : Int) ≤ (j : Int) := by omega
        have b1 : (j : Int) < (n1 : Int) := by omega
        have hq : ∀ w, Sem.run Try.prog (binOp BinOp.neq 28 (.agg #[.int .i64 (x1 : Int), .int .i64 (x2 : Int)]) (.agg #[.int .i64 (x1 : Int), .int .i64 (x2 : Int)])) w = .ok (.bool false) w := fun w => (neq_rows x1 x2 x1 x2 w).trans (by simp)
        go_wp2
        go_quiet (fail)
        go_wp2
        exact ⟨⟨j + 1, by go_num, by omega, HT2, ⟨⟨_, rfl⟩⟩⟩, by simp [intOf]; omega⟩
      · have HD := Aside0.mk (show decide (L1 = L2) = false from decide_eq_false (fun e => g2 (by rw [e])))
        obtain ⟨⟨x1, x2⟩, hx⟩ : ∃ x, L1.getD j (0, 0) = x := ⟨_, rfl⟩
        obtain ⟨⟨y1, y2⟩, hy⟩ : ∃ x, L2.getD j (0, 0) = x := ⟨_, rfl⟩
        rw [hx] at ca1 ca2 g2
        rw [hy] at cb1 cb2 g2
        simp only at ca1 ca2 cb1 cb2
        have hxy : ((x1 : Int) == (y1 : Int) && (x2 : Int) == (y2 : Int)) = false := by
          rcases hb : ((x1 : Int) == (y1 : Int) && (x2 : Int) == (y2 : Int)) with _ | _
          · rfl
          · simp only [Bool.and_eq_true, beq_iff_eq] at hb
            exact absurd (by rw [show x1 = y1 by omega, show x2 = y2 by omega]) g2
        have hq : ∀ w, Sem.run Try.prog (binOp BinOp.neq 28 (.agg #[.int .i64 (x1 : Int), .int .i64 (x2 : Int)]) (.agg #[.int .i64 (y1 : Int), .int .i64 (y2 : Int)])) w = .ok (.bool true) w := fun w => (neq_rows x1 x2 y1 y2 w).trans (by rw [hxy]; rfl)
        clear hx hy g2 hxy
        subst ea eb
        have b0 : (0 : Int) ≤ (j : Int) := by omega
        have b1 : (j : Int) < (n1 : Int) := by omega
        go_wp2
        go_quiet (fail)
        go_wp2
        go_ret
        exact ⟨by rw [HD.out]; rfl, ⟨⟨_, World.drewN_drewN _ _ _⟩⟩⟩
    · have HD := Aside0.mk (show decide (L1 = L2) = true by
        have e := HT.out
        rw [List.take_of_length_le (by rw [HN1.out]; omega), List.take_of_length_le (by rw [HN2.out]; omega)] at e
        exact decide_eq_true e)
      go_wp2
      go_ret
      exact ⟨by rw [HD.out]; rfl, ⟨⟨_, rfl⟩⟩⟩
theorem Same_calls {w : World} {v1 v2 : Value} {A1 A2 : Option Addr} {c1 c2 : Nat} {L1 L2 : List (Nat × Nat)} (h1 : RowsIn w v1 A1 c1 L1) (h2 : RowsIn w v2 A2 c2 L2) (hl1 : L1.length ≤ 16400) (hl2 : L2.length ≤ 16400) : Calls Try.prog 13 #[v1, v2] w fun e w' => e = .returned (.bool (decide (L1 = L2))) ∧ Drawn0 w w' := by
  by_cases h : L1.length = L2.length
  · exact same_eq h1 h2 hl1 h
  · exact same_len h1 h2 hl1 hl2 h
end Go.Proofs.Ytagplafbdmjagaa.A
