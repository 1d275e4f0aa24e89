/- Clone, Copy. -/
import Derived.Test.YtagplafbdmjagaaV6
import Derived.Below
import Derived.Deep.Draws
import Derived.Deep.AppendLies
import Derived.Maps.AppendAt
import Derived.OwnWalk
import Derived.Laws.BytesArg
import Derived.Laws.MakeOwn
import Derived.Laws.OwnMore
import Derived.Deep.OwnRows
import Derived.Tactics
import Derived.Lib.ConvBytes
import Derived.Laws.Slices
import Derived.WalkKit
import Derived.KernelRfl
import Derived.RowKit3
import Derived.Deep.LoopGhost
import Derived.Deep.QuietTactic
import Derived.BigQuiet
import Derived.WideLaws
import Derived.Deep.DeepCutAuto
import Derived.Deep.CutBlock
import Derived.Deep.RegionHeld3
import Derived.Laws.Rows
import Derived.Lib.AppendStr
import Derived.ArgAppend
import Derived.Laws.IdiomCopy
import Derived.OrdersHeld
import Derived.Laws.BitsLemmas
import Derived.RowKit
import Derived.Laws.Cover1
import Derived.Deep.RegionWith
import Derived.Deep.RegionLaw
import Derived.WalkMore
import Derived.ScopeJumps
import Derived.Test.YtagplafbdmjagaaWWords
import Derived.Test.YtagplafbdmjagaaWLast
import Derived.Test.YtagplafbdmjagaaWTab
import Derived.Test.YtagplafbdmjagaaWFour
import Derived.Test.YtagplafbdmjagaaWQPut
import Derived.Test.YtagplafbdmjagaaWApart
import Derived.Test.YtagplafbdmjagaaWArr
import Derived.Test.YtagplafbdmjagaaWZeros
import Derived.Test.YtagplafbdmjagaaWFoot
import Derived.Test.YtagplafbdmjagaaWKept
import Derived.Test.YtagplafbdmjagaaWShare
import Derived.Test.YtagplafbdmjagaaWN
import Derived.Test.YtagplafbdmjagaaWFootNe
import Derived.Test.YtagplafbdmjagaaWAt
import Derived.Test.YtagplafbdmjagaaWEqStruct
import Derived.Test.YtagplafbdmjagaaWRepsOne
import Derived.Test.YtagplafbdmjagaaWInv
import Derived.Test.YtagplafbdmjagaaWInvWords
import Derived.Test.YtagplafbdmjagaaWGuard
import Derived.Test.YtagplafbdmjagaaWNEv
import Derived.Test.YtagplafbdmjagaaWMore
import Derived.Laws.BitsAllLaws
namespace Go.Proofs.Ytagplafbdmjagaa.A
open Go.RowKit Go.Proofs.YtagplafbdmjagaaW.PrintWords Go.Proofs.YtagplafbdmjagaaW.PrintLast Go.Proofs.YtagplafbdmjagaaW.PrintMore
set_option linter.unusedVariables false
set_option maxHeartbeats 4000000
set_option maxRecDepth 100000
theorem clone_run (w : World) (q W c : Nat) (u : Nat → Nat) (hW : 1 ≤ W) (hl : W ≤ 16384) (b : Nat) (hb : w.heap[b]? = some (.cells #[] 59 (0, 0))) (hq : ∀ i, i < W → w.cell? ⟨q, i, none⟩ = some (.int .u64 (u i : Int))) (N : Nat) (hN : N ≤ b) :
    ∃ g cap w', (Builtin.append_ #[53, 53] 53 #[.slice (some ⟨b, 0, none⟩) 0 0, .slice (some ⟨q, 0, none⟩) W c]).run Try.prog w = .ok (.slice (some ⟨g, 0, none⟩) W cap) w' ∧ W ≤ cap ∧ N ≤ g ∧ (∃ cells, w'.heap[g]? = some (.cells cells 59 (0, 0)) ∧ ∀ i, i < W → cells[i]? = some (.int .u64 (u i : Int))) ∧ Below N w w' := by
  have hi : (Try.prog.info? 59).map (fun i => (i.zero, i.size, i.bytes)) = some (some (.int .u64 0), 1, 8) := by kernel_rfl
  obtain ⟨i, h1, h2⟩ := Option.map_eq_some_iff.1 hi
  simp only [Prod.mk.injEq] at h2
  obtain ⟨hz, hs, hy⟩ := h2
  have hbl : b < w.heap.size := by
    rcases Nat.lt_or_ge b w.heap.size with hl | hg
    · exact hl
    · rw [Array.getElem?_eq_none hg] at hb; simp at hb
  obtain ⟨v', w', hr, ho, hg, _⟩ := run_append_own (P := Try.prog) w N 53 53 59 i (.int .u64 0) 1 8 Try.underlying53 h1 hz hs hy rfl (by decide) (.slice (some ⟨b, 0, none⟩) 0 0) 0 []
    ⟨rfl, Or.inr ⟨b, 0, #[], rfl, hN, hb, Nat.le_refl _, by decide, rfl, rfl⟩⟩ ⟨q, 0, none⟩ W c ((List.range W).map fun i => .int .u64 (u i : Int)) (by simp)
    (by
      intro j x hj
      rw [List.getElem?_map] at hj
      obtain ⟨k, hk, rfl⟩ := Option.map_eq_some_iff.1 hj
      obtain ⟨hjl, hk2⟩ := List.getElem?_eq_some_iff.1 hk
      simp at hjl hk2
      subst hk2
      have := hq j hjl
      rw [Addr.add_lit]
      simpa using this)
    (by
      intro x hx
      obtain ⟨k, _, rfl⟩ := List.mem_map.1 hx
      rfl)
    (by simp [maxLen]; omega) (by omega) (by omega)
  obtain ⟨hlen, ho⟩ := ho
  rcases ho with ⟨rfl, h0⟩ | ⟨g, cap, cur, rfl, hgN, hgh, hcap, _, hcs, ht⟩
  · omega
  · refine ⟨g, cap, w', by simpa using hr, by omega, hgN, ⟨cur, hgh, ?_⟩, hg.os, hg.tape, hg.output, hg.size, fun k hk => hg.block k (by omega) (by simp [Value.ownBlock]; omega)⟩
    intro i hi
    have := congrArg (fun l => l[i]?) ht
    simp only [Nat.zero_add, Nat.mul_one, List.nil_append, List.getElem?_map, List.getElem?_take] at this
    rw [if_pos hi] at this
    simpa [hi] using this
theorem append_event {P : Program} {ops : Array Oper} {rest : List Oper} {o : Oper} {a : Act} {Q : Exit → Act → World → Prop} {W w1 : World} {v u1 u2 : Value} (hgd : o.guard = none) (s x : Operand) (t : TypeId)
    (ho : o.op = .call { callee := .builtin .append, args := #[s, x], argTypes := #[t, t] }) (h1 : a.eval s = u1) (h2 : a.eval x = u2) (hr : (Builtin.append_ #[t, t] o.type #[u1, u2]).run P W = .ok v w1)
    (h : wpList P ops Q rest (a.put o.dst v) w1) : wpList P ops Q (o :: rest) a W := by
  refine Kd.event_run hgd ?_ h
  unfold execOp
  simp only [ho, resolve, invoke, builtin, Sem.run_bind, Sem.run_pure, Result.andThen_ok, List.map_toArray, List.map_cons, List.map_nil, h1, h2, hr]
theorem Clone_calls (w : World) (q W c : Nat) (u : Nat → Nat) (hW : 1 ≤ W) (hl : W ≤ 16384) (hql : q < w.heap.size) (hq : ∀ i, i < W → w.cell? ⟨q, i, none⟩ = some (.int .u64 (u i : Int))) : Calls Try.prog 32 #[.slice (some ⟨q, 0, none⟩) W c] w fun e w' => ∃ g cap, e = .returned (.slice (some ⟨g, 0, none⟩) W cap) ∧ W ≤ cap ∧ w.heap.size ≤ g ∧ (∃ cells, w'.heap[g]? = some (.cells cells 59 (0, 0)) ∧ ∀ i, i < W → cells[i]? = some (.int .u64 (u i : Int))) ∧ Below w.heap.size w w' := by
  obtain ⟨g, cap, w', hr, h1, h2, h3, h4⟩ := clone_run (w.alloc (.cells #[] 59)) q W c u hW hl w.heap.size (blk_new w _) (fun i hi => (World.cell?_of_block (a := ⟨q, i, none⟩) (Below.heap_alloc w _ q hql)).trans (hq i hi)) w.heap.size (Nat.le_refl _)
  have HR := Aside0.mk hr
  have H3 := Aside0.mk h3
  have H4 := Aside0.mk h4
  clear h3 h4 hr
  have hnil : ∀ w, Sem.run Try.prog (binOp BinOp.eql 53 (.slice (some ⟨q, 0, none⟩) W c) (.slice none 0 0)) w = .ok (.bool false) w := fun _ => by kernel_rfl
  have hbs : ∀ w : World, Sem.run Try.prog (Instr.buildSlice 53 0 #[]) w = .ok (.slice (some ⟨w.heap.size, 0, none⟩) 0 0) (w.alloc (.cells #[] 59)) := fun _ => by kernel_rfl
  go_enter Try.func32, Try.ntmps32
  go_wp2_with (first | ((with_reducible refine gate_dst (N := 7) rfl ?_); refine append_event rfl (.tmp 5) (.tmp 6) 53 rfl rfl rfl HR.out ?_))
  go_ret
  exact ⟨g, cap, rfl, h1, h2, H3.out, (below_alloc (Below.refl _ _) _).trans H4.out⟩
theorem Copy_nil (w : World) : Calls Try.prog 21 #[.pointer none] w fun e w' => e = .returned (.pointer none) ∧ w' = w := by
  go_enter Try.func21, Try.ntmps21
  go_wp2_with (first | (go_at_call 23; (with_reducible refine (made_nil _).mono ?_); rintro e w1 ⟨rfl, rfl⟩))
  go_ret
  exact ⟨rfl, rfl⟩
theorem Copy_zero (w : World) (p : Nat) (v : Value) (h : w.heap[p]? = some (.cells #[.int .i64 0, v] 55 (0, 0))) : Calls Try.prog 21 #[.pointer (some ⟨p, 0, none⟩)] w fun e w' => e = .returned (.pointer none) ∧ w' = w := by
  go_enter Try.func21, Try.ntmps21
  go_wp2_with (first | (go_at_call 23; (with_reducible refine (made_zero _ p v h).mono ?_); rintro e w1 ⟨rfl, rfl⟩))
  go_ret
  exact ⟨rfl, rfl⟩
theorem copy_done {w w5 : World} {p q n c g cap : Nat} {T : Nat → Bool} {cells : Array Value} {u : Nat → Nat} (h : AllocAt w p q n T c cells u) (hb : Below w.drew.heap.size w.drew w5) (h1 : wordsOf n ≤ cap) (h2 : w.drew.heap.size ≤ g)
    (h3 : ∃ cells, w5.heap[g]? = some (.cells cells 59 (0, 0)) ∧ ∀ i, i < wordsOf n → cells[i]? = some (.int .u64 (u i : Int))) :
    ∃ p1 q1, Ending.returned (.pointer (some ⟨w5.heap.size, 0, none⟩)) = Ending.returned (.pointer (some ⟨p1, 0, none⟩)) ∧ w.heap.size ≤ p1 ∧ w.heap.size ≤ q1 ∧ IsAlloc (w5.alloc (.cells #[.int .i64 (n : Int), .slice (some ⟨g, 0, none⟩) (wordsOf n) cap] 55)) p1 q1 n T ∧ Below w.heap.size w (w5.alloc (.cells #[.int .i64 (n : Int), .slice (some ⟨g, 0, none⟩) (wordsOf n) cap] 55)) := by
  obtain ⟨cells2, h3, h4⟩ := h3
  have hb2 : Below w.heap.size w w5 := (below_drew1 (Below.refl _ _)).trans hb
  have hg : g < w5.heap.size := blk_lt h3
  refine ⟨w5.heap.size, g, rfl, hb2.size, h2, ⟨cap, cells2, u, ?_⟩, below_alloc hb2 _⟩
  exact {
    self := blk_new w5 _
    words := (Below.heap_alloc w5 _ g hg).trans h3
    cap := h1
    cell := h4
    lt := h.lt
    bit := h.bit
    out := h.out
    apart := by omega
    one := h.one
    most := h.most }
theorem Copy_calls {w : World} {p q n : Nat} {T : Nat → Bool} (h : IsAlloc w p q n T) : Calls Try.prog 21 #[.pointer (some ⟨p, 0, none⟩)] w fun e w' => ∃ p1 q1, e = .returned (.pointer (some ⟨p1, 0, none⟩)) ∧ w.heap.size ≤ p1 ∧ w.heap.size ≤ q1 ∧ IsAlloc w' p1 q1 n T ∧ Below w.heap.size w w' := by
  have HA := Aside0.mk h
  obtain ⟨c, cells, u, h⟩ := h
  have hc0 : w.cell? ⟨p, 0, none⟩ = some (.int .i64 (n : Int)) := (blk_cell h.self 0).trans rfl
  have hc1 : w.cell? ⟨p, 1, none⟩ = some (.slice (some ⟨q, 0, none⟩) (wordsOf n) c) := (blk_cell h.self 1).trans rfl
  have HH := Aside0.mk h
  clear h
  go_enter Try.func21, Try.ntmps21
  go_wp2_with (first | (go_at_call 23; (with_reducible refine (made_calls HA.out).mono ?_); rintro e w1 ⟨rfl, rfl⟩))
  have HW := Aside0.mk (show 1 ≤ wordsOf n ∧ wordsOf n ≤ 16384 by have := HH.out.one; have := HH.out.most; unfold wordsOf; omega)
  have HH2 := Aside0.mk (show AllocAt w1.drew p q n T c cells u from HH.out.drawn (by repeat (first | exact Drawn0.refl _ | apply Drawn0.step)))
  have HC := Aside0.mk (Clone_calls w1.drew q (wordsOf n) c u HW.out.1 HW.out.2 (blk_lt HH2.out.words) (fun i hi => (blk_cell HH2.out.words i).trans (HH2.out.cell i hi)))
  go_region_with (first | (go_at_call 32; (with_reducible refine HC.out.mono ?_); rintro e w5 ⟨g, cap, rfl, h1, h2, h3, hb⟩; have H3 := Aside0.mk h3; have HB := Aside0.mk hb; have hc05 : w5.cell? ⟨p, 0, none⟩ = some (.int .i64 (n : Int)) := (blk_cell (blk_below HH2.out.self hb) 0).trans rfl; have hc15 : w5.cell? ⟨p, 1, none⟩ = some (.slice (some ⟨q, 0, none⟩) (wordsOf n) c) := (blk_cell (blk_below HH2.out.self hb) 1).trans rfl; clear h3 hb))
  all_goals
    go_wp2
    go_ret
    exact copy_done HH.out HB.out h1 h2 H3.out
end Go.Proofs.Ytagplafbdmjagaa.A
