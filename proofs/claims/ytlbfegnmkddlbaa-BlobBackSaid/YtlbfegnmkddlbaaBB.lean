/- The walk of BlobBack. -/
import Derived.Test.YtlbfegnmkddlbaaProg
import Derived.Below
import Derived.Deep.Draws
import Derived.Deep.AppendLies
import Derived.Maps.AppendAt
import Derived.OwnWalk
import Derived.Laws.BytesArg
import Derived.Laws.MakeOwn
import Derived.Laws.OwnMore
import Derived.Deep.OwnRows
import Derived.Tactics
import Derived.Lib.ConvBytes
import Derived.Laws.Slices
import Derived.WalkKit
import Derived.KernelRfl
import Derived.RowKit3
import Derived.Deep.LoopGhost
import Derived.Deep.QuietTactic
import Derived.BigQuiet
import Derived.WideLaws
import Derived.Deep.DeepCutAuto
import Derived.Deep.CutBlock
import Derived.Deep.RegionHeld3
import Derived.Laws.Rows
import Derived.Lib.AppendStr
import Derived.ArgAppend
import Derived.Laws.IdiomCopy
import Derived.OrdersHeld
import Derived.Laws.BitsLemmas
import Derived.RowKit
import Derived.Laws.Cover1
import Derived.Deep.RegionWith
import Derived.Deep.RegionLaw
import Derived.WalkMore
import Derived.ScopeJumps
import Derived.Test.YtlbfegnmkddlbaaWWords
import Derived.Test.YtlbfegnmkddlbaaWLast
import Derived.Test.YtlbfegnmkddlbaaWTab
import Derived.Test.YtlbfegnmkddlbaaWFour
import Derived.Test.YtlbfegnmkddlbaaWQPut
import Derived.Test.YtlbfegnmkddlbaaWApart
import Derived.Test.YtlbfegnmkddlbaaWArr
import Derived.Test.YtlbfegnmkddlbaaWZeros
import Derived.Test.YtlbfegnmkddlbaaWFoot
import Derived.Test.YtlbfegnmkddlbaaWKept
import Derived.Test.YtlbfegnmkddlbaaWShare
import Derived.Test.YtlbfegnmkddlbaaWN
import Derived.Test.YtlbfegnmkddlbaaWFootNe
import Derived.Test.YtlbfegnmkddlbaaWAt
import Derived.Test.YtlbfegnmkddlbaaWEqStruct
import Derived.Test.YtlbfegnmkddlbaaWRepsOne
import Derived.Test.YtlbfegnmkddlbaaWInv
import Derived.Test.YtlbfegnmkddlbaaWInvWords
import Derived.Test.YtlbfegnmkddlbaaWGuard
import Derived.Test.YtlbfegnmkddlbaaWNEv
import Derived.Test.YtlbfegnmkddlbaaWMore
import Derived.Test.YtlbfegnmkddlbaaAx6
namespace Go.Proofs.Ytlbfegnmkddlbaa.A
open Go.RowKit Go.Proofs.YtlbfegnmkddlbaaW.PrintWords Go.Proofs.YtlbfegnmkddlbaaW.PrintLast Go.Proofs.YtlbfegnmkddlbaaW.PrintMore
set_option linter.unusedVariables false
set_option maxHeartbeats 4000000 in
set_option maxRecDepth 100000 in
theorem back_big (k : Nat) (body : ByteArray) (size : Int) (hs : 2560 < body.size) (hcut : blob_Cut.f k body = some ([], 5)) (hlv : ambrylaw19_lives.f k = some true) (w : World) :
    Calls Try.prog 6 #[.string body, .int .i64 size] w fun e w' => e = .returned (.bool true) ∧ Below w.heap.size w w' := by
  have HCut := Aside0.mk hcut
  have HL := Aside0.mk hlv
  have hs2 : (2560 : Int) < (body.size : Int) := by omega
  clear hcut hlv hs
  go_enter Try.func6, Try.ntmps6
  go_wp2_with (first | (go_at_call 13; (with_reducible refine (blob_Cut.calls k body _ _ _ HCut.out).mono ?_); rintro e w1 ⟨v0, rfl, ho, hb⟩; obtain ⟨A, c, rfl, hcl, hC⟩ := Kd.R_reads ho; have HB := Aside0.mk hb; clear ho hb hcl hC) | (go_at_call 8; (with_reducible refine (ambrylaw19_lives.calls k true _ HL.out).mono ?_); rintro e w2 ⟨rfl, hb⟩; have HB2 := Aside0.mk (below_step HB.out hb); clear hb))
  go_ret
  exact ⟨by first | rfl | (simp; done), HB2.out⟩
def BkBox (a b : Int) (g : Nat) (W : World) : Prop := W.heap[g]? = some (.cells #[.int .i64 a, .int .i64 b] 39 (0, 0))
set_option maxHeartbeats 4000000 in
set_option maxRecDepth 100000 in
theorem back_small (k : Nat) (body : ByteArray) (size : Int) (hs : body.size ≤ 2560) (l : List ByteArray) (hcut : blob_Cut.f k body = some (l, 0)) (t0 t1 : Int) (ht : tag_Of.f (bytesOf body) = some (t0, t1)) (hj : blob_Join.f k l (body.size : Int) t0 t1 = some (body, 0)) (hck : blob_Check.f k l (body.size : Int) t0 t1 = some 0) (hj2 : size ≠ (body.size : Int) → blob_Join.f k l size t0 t1 = some ((⟨#[]⟩ : ByteArray), 4)) (hlv : ambrylaw19_lives.f k = some true) (w : World) :
    Calls Try.prog 6 #[.string body, .int .i64 size] w fun e w' => e = .returned (.bool true) ∧ Below w.heap.size w w' := by
  have HCut := Aside0.mk hcut
  have HL := Aside0.mk hlv
  have HT := Aside0.mk ht
  have HJ := Aside0.mk hj
  have HCk := Aside0.mk hck
  have HJ2 := Aside0.mk hj2
  have hs2 : (body.size : Int) ≤ 2560 := by omega
  have HZ := Aside0.mk (show body.size ≤ 9223372036854775807 by omega)
  have kb := fun W => print_bytes (P := Try.prog) 9 49 5 Try.underlying9 Try.underlying49 Try.underlying5 body W
  clear hcut hlv ht hj hck hj2 hs
  by_cases hsz : size = (body.size : Int)
  all_goals
    first
    | (subst hsz)
    | (have HN := Aside0.mk (HJ2.out hsz); have hq : (size == (body.size : Int)) = false := beq_eq_false_iff_ne.2 hsz; clear hsz)
    go_enter Try.func6, Try.ntmps6
    go_wp2_with (first | (go_at_call 13; (with_reducible refine (blob_Cut.calls k body _ _ _ HCut.out).mono ?_); rintro e w1 ⟨v0, rfl, ho, hb⟩; obtain ⟨A, c, rfl, hcl, hC⟩ := Kd.R_reads ho; have HB := Aside0.mk hb; have HCl := Aside0.mk hcl; have HC := Aside0.mk hC; clear ho hb hcl hC) | (go_at_call 20; (with_reducible refine (of_bytes_at body HZ.out t0 t1 HT.out w1 w1.heap.size rfl _ (grownCap_ge _ _ _ _)).mono ?_); rintro e w2 ⟨rfl, hb⟩; have HB2 := Aside0.mk (below_step HB.out hb); have HC2 := Aside0.mk (Kd.C_below HC.out hb); clear hb HB HC) | ((with_reducible refine gate_dst (N := 7) rfl ?_); refine box_event ?hg (N := 7) ?hd (cs := #[.int .i64 0, .int .i64 0]) (t := 39) ?hr ?_; (case hd => rfl); (case hg => rfl); (case hr => first | (go_simp; done) | (go_simp; rfl)); intro g7 hg w3 hbox hb; have HX := Aside0.mk hbox; have HG := Aside0.mk (show w.heap.size ≤ g7 by rw [hg]; exact HB2.out.size); have HB3 := Aside0.mk (below_step HB2.out hb); have HC3 := Aside0.mk (Kd.C_below HC2.out hb); have HNC := Aside0.mk (show w2.heap.size ≤ g7 by omega); have HB23 := Aside0.mk hb; clear hbox hg hb; have hcz0 : w3.cell? ⟨g7, 0, none⟩ = some (.int .i64 0) := (blk_cell HX.out 0).trans rfl; have hcz1 : w3.cell? ⟨g7, 1, none⟩ = some (.int .i64 0) := (blk_cell HX.out 1).trans rfl; have hfz0 := blk_frozen HX.out 0; have hfz1 := blk_frozen HX.out 1) | (go_at_call 15; (with_reducible refine (blob_Join.calls k _ _ l (body.size : Int) t0 t1 body 0 _ (Kd.C_below HC2.out (below_set (below_set HB23.out HNC.out) HNC.out)) HCl.out HJ.out).mono ?_); rintro e w4 ⟨rfl, hb⟩; have HB4 := Aside0.mk (below_step (below_set (below_set HB3.out HG.out) HG.out) hb); have HC4 := Aside0.mk (Kd.C_below (Kd.C_below HC2.out (below_set (below_set HB23.out HNC.out) HNC.out)) hb); have HX4 := Aside0.mk (blk_below (g := g7) (o := .cells #[.int .i64 t0, .int .i64 t1] 39 (0, 0)) (blk_put (blk_put HX.out 0 _ rfl) 1 _ rfl) hb); clear hb hcz0 hcz1 hfz0 hfz1; have hd0 : w4.cell? ⟨g7, 0, none⟩ = some (.int .i64 t0) := (blk_cell HX4.out 0).trans rfl; have hd1 : w4.cell? ⟨g7, 1, none⟩ = some (.int .i64 t1) := (blk_cell HX4.out 1).trans rfl) | (go_at_call 18; (with_reducible refine (blob_Check.calls k _ _ l (body.size : Int) t0 t1 0 _ HC4.out HCl.out HCk.out).mono ?_); rintro e w5 ⟨rfl, hb⟩; have HB5 := Aside0.mk (below_step HB4.out hb); have HC5 := Aside0.mk (Kd.C_below HC4.out hb); have HX5 := Aside0.mk (blk_below (g := g7) (o := .cells #[.int .i64 t0, .int .i64 t1] 39 (0, 0)) HX4.out hb); clear hb; have he0 : w5.cell? ⟨g7, 0, none⟩ = some (.int .i64 t0) := (blk_cell HX5.out 0).trans rfl; have he1 : w5.cell? ⟨g7, 1, none⟩ = some (.int .i64 t1) := (blk_cell HX5.out 1).trans rfl) | (go_at_call 15; (with_reducible refine (blob_Join.calls k _ _ l size t0 t1 (⟨#[]⟩ : ByteArray) 4 _ HC5.out HCl.out HN.out).mono ?_); rintro e w6 ⟨rfl, hb⟩; have HB6 := Aside0.mk (below_step HB5.out hb); clear hb) | (go_at_call 8; (with_reducible refine (ambrylaw19_lives.calls k true _ HL.out).mono ?_); rintro e w7 ⟨rfl, hb⟩; have HB7 := Aside0.mk (by first | exact below_step HB6.out hb | exact below_step HB5.out hb : Below w.heap.size w w7); clear hb))
    go_ret
    exact ⟨by first | rfl | (simp [*]; done), HB7.out⟩
end Go.Proofs.Ytlbfegnmkddlbaa.A
