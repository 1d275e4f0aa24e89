/- New, Copy. -/
import Derived.Test.YtdjpohmgljhhcaaX5
import Derived.Below
import Derived.Deep.Draws
import Derived.Deep.AppendLies
import Derived.Maps.AppendAt
import Derived.OwnWalk
import Derived.Laws.BytesArg
import Derived.Laws.MakeOwn
import Derived.Laws.OwnMore
import Derived.Deep.OwnRows
import Derived.Tactics
import Derived.Lib.ConvBytes
import Derived.Laws.Slices
import Derived.WalkKit
import Derived.KernelRfl
import Derived.RowKit3
import Derived.Deep.LoopGhost
import Derived.Deep.QuietTactic
import Derived.BigQuiet
import Derived.WideLaws
import Derived.Deep.DeepCutAuto
import Derived.Deep.CutBlock
import Derived.Deep.RegionHeld3
import Derived.Laws.Rows
import Derived.Lib.AppendStr
import Derived.ArgAppend
import Derived.Laws.IdiomCopy
import Derived.OrdersHeld
import Derived.Laws.BitsLemmas
import Derived.RowKit
import Derived.Laws.Cover1
import Derived.Deep.RegionWith
import Derived.Deep.RegionLaw
import Derived.WalkMore
import Derived.ScopeJumps
import Derived.Test.YtdjpohmgljhhcaaWWords
import Derived.Test.YtdjpohmgljhhcaaWLast
import Derived.Test.YtdjpohmgljhhcaaWTab
import Derived.Test.YtdjpohmgljhhcaaWFour
import Derived.Test.YtdjpohmgljhhcaaWQPut
import Derived.Test.YtdjpohmgljhhcaaWApart
import Derived.Test.YtdjpohmgljhhcaaWArr
import Derived.Test.YtdjpohmgljhhcaaWZeros
import Derived.Test.YtdjpohmgljhhcaaWFoot
import Derived.Test.YtdjpohmgljhhcaaWKept
import Derived.Test.YtdjpohmgljhhcaaWShare
import Derived.Test.YtdjpohmgljhhcaaWN
import Derived.Test.YtdjpohmgljhhcaaWFootNe
import Derived.Test.YtdjpohmgljhhcaaWAt
import Derived.Test.YtdjpohmgljhhcaaWEqStruct
import Derived.Test.YtdjpohmgljhhcaaWRepsOne
import Derived.Test.YtdjpohmgljhhcaaWInv
import Derived.Test.YtdjpohmgljhhcaaWInvWords
import Derived.Test.YtdjpohmgljhhcaaWGuard
import Derived.Test.YtdjpohmgljhhcaaWNEv
import Derived.Test.YtdjpohmgljhhcaaWMore
import Derived.Laws.BitsAllLaws
namespace Go.Proofs.Ytdjpohmgljhhcaa.A
open Go.RowKit Go.Proofs.YtdjpohmgljhhcaaW.PrintWords Go.Proofs.YtdjpohmgljhhcaaW.PrintLast Go.Proofs.YtdjpohmgljhhcaaW.PrintMore
set_option linter.unusedVariables false
set_option maxHeartbeats 4000000
set_option maxRecDepth 100000
theorem New_bad (n : Int) (h : n < 1 ∨ 16384 < n) (w : World) : Calls Try.prog 34 #[.int .i64 n] w fun e w' => e = .returned (.tuple #[.pointer none, .int .i64 2]) ∧ w' = w := by
  rcases h with h | h
  · go_enter Try.func34, Try.ntmps34
    go_wp2
    go_ret2
    exact ⟨rfl, rfl⟩
  · have h2 : ¬ n < 1 := by omega
    go_enter Try.func34, Try.ntmps34
    go_wp2
    go_ret2
    exact ⟨rfl, rfl⟩
theorem new_cells (m i : Nat) (hi : i < m) : (madeCells #[.int .u64 0] m)[i]? = some (.int .u64 0) := by
  simp [madeCells, hi, Nat.mod_one]
theorem New_calls (n : Nat) (h1 : 1 ≤ n) (h2 : n ≤ 16384) (x : Int) (hx : (n : Int) = x) (w : World) : Calls Try.prog 34 #[.int .i64 x] w fun e w' => ∃ p q, e = .returned (.tuple #[.pointer (some ⟨p, 0, none⟩), .int .i64 0]) ∧ w.heap.size ≤ p ∧ w.heap.size ≤ q ∧ IsAlloc w' p q n (fun _ => false) ∧ Below w.heap.size w w' := by
  subst hx
  obtain ⟨W, hW⟩ : ∃ W, wordsOf n = W := ⟨_, rfl⟩
  have hd : ((n : Int) + 64 - 1) / 64 = (W : Int) := by rw [← hW]; unfold wordsOf; omega
  have hWl : W ≤ 16384 := by rw [← hW]; unfold wordsOf; omega
  have hm := print_make 74 77 .u64 8 Try.underlying74 (by kernel_rfl) (by decide) W (by omega)
  have g1 : ¬ (n : Int) < 1 := by omega
  have g2 : ¬ (16384 : Int) < (n : Int) := by omega
  have g2 : ¬ 16384 < n := by omega
  go_enter Try.func34, Try.ntmps34
  go_wp2_with (first | ((with_reducible refine gate_dst (N := 17) rfl ?_); refine box_event ?hg (N := 17) ?hd (cs := #[.int .i64 (n : Int), .slice (some ⟨w.heap.size, 0, none⟩) W W]) (t := 76) ?hr ?_; (case hd => rfl); (case hg => rfl); (case hr => first | (go_simp; done) | (go_simp; rfl)); intro gb hg w3 hbox hb; have HBX := Aside0.mk hbox; have HB := Aside0.mk hb; have HG := Aside0.mk hg; clear hbox hb hg))
  go_ret2
  have hnew : (w.alloc (.cells (madeCells #[.int .u64 0] W) 77)).heap[w.heap.size]? = some (.cells (madeCells #[.int .u64 0] W) 77) := blk_new w _
  have hsz : w.heap.size < gb := by rw [HG.out]; simp
  refine ⟨gb, rfl, by omega, w.heap.size, Nat.le_refl _, ⟨W, madeCells #[.int .u64 0] W, fun _ => 0, ?_⟩, ?_⟩
  · exact {
      self := by rw [hW]; exact HBX.out
      words := (HB.out.block _ (by simp)).trans hnew
      cap := by rw [hW]; exact Nat.le_refl _
      cell := fun i hi => new_cells W i (by rw [← hW]; exact hi)
      lt := fun _ => by decide
      bit := fun i j _ _ => by simp
      out := fun _ _ => rfl
      apart := by omega
      one := h1
      most := h2 }
  · exact (below_alloc (Below.refl _ _) _).trans (HB.out.mono (by simp))
end Go.Proofs.Ytdjpohmgljhhcaa.A
