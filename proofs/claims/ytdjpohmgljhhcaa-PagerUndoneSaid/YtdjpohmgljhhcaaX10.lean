/- A disk made. -/
import Derived.Test.YtdjpohmgljhhcaaX9
namespace Go.Proofs.Ytdjpohmgljhhcaa.A
open Go.RowKit Go.Proofs.YtdjpohmgljhhcaaW.PrintWords Go.Proofs.YtdjpohmgljhhcaaW.PrintLast Go.Proofs.YtdjpohmgljhhcaaW.PrintMore
set_option linter.unusedVariables false
set_option maxHeartbeats 4000000
set_option maxRecDepth 100000
/-- A sector of noughts. -/
def zeroSec : List Value := List.replicate 128 (.int .u8 0)
theorem zeroSec_sec : Sec zeroSec := ⟨by simp [zeroSec], fun v hv => ⟨0, by decide, by simp [zeroSec] at hv; exact hv⟩⟩
theorem info85 : (Try.prog.info? 85).map (fun i => (i.zero, i.size, i.bytes)) = some (some (.agg (Array.replicate 128 (.int .u8 0))), 128, 128) := by kernel_rfl
theorem make_disk (n : Nat) (hn : n ≤ 16384) (w : World) : (Instr.makeSlice 70 (.int .i64 (n : Int)) (.int .i64 (n : Int))).run Try.prog w = .ok (.slice (some ⟨w.heap.size, 0, none⟩) n n) (w.alloc (.cells (madeCells (Array.replicate 128 (.int .u8 0)) (n * 128)) 85)) := by
  obtain ⟨i, hi, hzz⟩ := Option.map_eq_some_iff.1 info85
  simp only [Prod.mk.injEq] at hzz
  obtain ⟨hz, hs, hb⟩ := hzz
  have hr := run_make (P := Try.prog) w 70 85 i _ Try.underlying70 hi hz .i64 .i64 n n (by omega) (Int.le_refl _) (by rw [hb]; omega) (by omega)
  simp only [Int.toNat_natCast, hs] at hr
  exact hr
theorem made_sec (n i j : Nat) (v : Value) (hi : i < n) (h : zeroSec[j]? = some v) : (madeCells (Array.replicate 128 (.int .u8 0)) (n * 128))[i * 128 + j]? = some v := by
  have hj : j < 128 := by
    have := (List.getElem?_eq_some_iff.1 h).1
    simpa [zeroSec] using this
  have hv : v = .int .u8 0 := by
    have := List.mem_of_getElem? h
    simpa [zeroSec] using this
  subst hv
  have hlt : i * 128 + j < n * 128 := by omega
  have hm : (i * 128 + j) % 128 < 128 := Nat.mod_lt _ (by decide)
  have e : (Array.replicate 128 (Value.int .u8 0))[(i * 128 + j) % 128]! = .int .u8 0 := by
    rw [getElem!_pos _ _ (by simpa using hm)]
    exact Array.getElem_replicate ..
  rw [madeCells, Array.getElem?_map, Array.getElem?_range, if_pos hlt, Option.map_some, Array.size_replicate, e]
/-- What New of a disk tells. -/
def DiskMade (N n : Nat) (w : World) (e : Ending) (w' : World) : Prop := ∃ d kq, e = .returned (.tuple #[.pointer (some ⟨d, 0, none⟩), .int .i64 0]) ∧ IsDisk N w' d kq n (fun _ => zeroSec) [] ∧ Below w.heap.size w w'
theorem diskNew_calls {N : Nat} (n : Nat) (h1 : 1 ≤ n) (h2 : n ≤ 16384) (x : Int) (hx : (n : Int) = x) (w : World) (hN : N ≤ w.heap.size) : Calls Try.prog 21 #[.int .i64 x] w (DiskMade N n w) := by
  subst hx
  have hm := make_disk n h2
  have g1 : ¬ (n : Int) < 1 := by omega
  have g2 : ¬ 16384 < n := by omega
  go_enter Try.func21, Try.ntmps21
  go_wp2_with (first | ((with_reducible refine gate_dst (N := 13) rfl ?_); refine box_event ?hg (N := 13) ?hd (cs := #[.slice (some ⟨w.heap.size, 0, none⟩) n n, .slice none 0 0, .int .i64 (-1), .bool false]) (t := 73) ?hr ?_; (case hd => rfl); (case hg => rfl); (case hr => first | (go_simp; done) | (go_simp; rfl)); intro gb hg w3 hbox hb; have HBX := Aside0.mk hbox; have HB := Aside0.mk hb; have HG := Aside0.mk hg; clear hbox hb hg))
  go_ret2
  have hnew := blk_new w (.cells (madeCells (Array.replicate 128 (.int .u8 0)) (n * 128)) 85)
  refine ⟨gb, w.heap.size, rfl, ⟨.slice none 0 0, ?_⟩, (below_alloc (Below.refl _ _) _).trans (HB.out.mono (by simp))⟩
  exact {
    self := HBX.out
    kept := ⟨_, (HB.out.block _ (by simp)).trans hnew, size_madeCells _ _, fun i j v hi hv => made_sec n i j v hi hv⟩
    sec := fun _ _ => zeroSec_sec
    pend := World.ownsRow_nil _ _ _ _
    psec := fun x hx => by simp at hx
    bd := by have := HG.out; simp at this; omega
    bk := hN
    one := h1
    most := h2 }
end Go.Proofs.Ytdjpohmgljhhcaa.A
