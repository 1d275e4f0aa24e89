/- Pending writes, from the last one on: the iterator. -/
import Derived.Test.YtdjpohmgljhhcaaX12
import Derived.RangeFuncNested
import Derived.RangeFuncBound
import Derived.RangeFuncCalls
import Derived.RangeFuncLeaves
import Derived.Shelf.Abstract
import Derived.Shelf.RegionOpen
import Derived.OwnWalkIn
import Derived.TacticsInMore
import Derived.LoopNIn
import Derived.LoopIn
namespace Go.Proofs.Ytdjpohmgljhhcaa.A
open Go.RowKit Go.Shelf Go.Proofs.YtdjpohmgljhhcaaW.PrintWords Go.Proofs.YtdjpohmgljhhcaaW.PrintLast Go.Proofs.YtdjpohmgljhhcaaW.PrintMore
set_option linter.unusedVariables false
set_option linter.unusedSimpArgs false
set_option maxHeartbeats 4000000
set_option maxRecDepth 100000
attribute [local go_sem] Oper.semAt_some
theorem loadIn_mid {F : Fence} {n : Nat} {P : Program} {w : World} {ops : Array Oper} {rest : List Oper} {o : Oper} {a : Act} {Q : Exit → Act → World → Prop} (hgd : o.guard = none) (ty : TypeId) (x : Operand) (ho : o.op = .load ty x)
    (b off : Nat) (hx : a.eval x = .pointer (some ⟨b, off, none⟩)) (cs : List Value) (d : TypeDesc) (hc : w.rangeAt b off cs)
    (hu : P.underlying ty = some d) (hd : d.isRow = true) (hi : (P.info? ty).map (·.size) = some cs.length)
    (h : wpListIn F n P ops Q rest (a.put o.dst (.agg cs.toArray)) w) : wpListIn F n P ops Q (o :: rest) a w := by
  refine wpListIn_plain hgd fun K hK => ?_
  unfold Oper.wpIn
  refine ⟨by simp [Oper.about, ho], ?_⟩
  rw [Oper.semAt_plain F _ _ (by rw [ho]; intro c hc'; cases hc')]
  simp only [execOp, ho, hx, Instr.loadAt, Instr.sureAddr, Sem.run_bind, Sem.run_pure, Result.andThen_ok, run_loadVar_mid w b off ty cs d hc hu hd hi]
  exact hK _ _ h
/-- What has come when k rounds are over, from the last one on. -/
def downto (m k : Nat) : List Nat := (List.range k).map fun r => m - 1 - r
theorem downto_succ (m k : Nat) : downto m (k + 1) = downto m k ++ [m - 1 - k] := by simp [downto, List.range_succ]
theorem downto_length (m k : Nat) : (downto m k).length = k := by simp [downto]
/-- What a round is handed. -/
def encW (ent : Nat → List Value) (j : Nat) : Array Value := #[.int .i64 (j : Int), .agg (ent j).toArray]
theorem backward_in (F : Fence) (n : Nat) (h7 : F.fn 57) (hro : F.round = none) (hn : 1 ≤ n) (l Bs n₀ b m cap : Nat) (ent : Nat → List Value) (hent : ∀ j, j < m → (ent j).length = 129) (hm : m ≤ 100000) (hb : b < n₀) (hBs0 : Bs < n₀) (J Jx : List Nat → World → Prop)
    (hY : ∀ pre x W, J pre W → pre.length < m → YieldAt F (n - 1) Try.prog l (encW ent x) W fun e W' =>
      (e = .returned (.bool true) ∧ J (pre ++ [x]) W' ∧ Below n₀ W W') ∨ (e = .returned (.bool false) ∧ Jx (pre ++ [x]) W'))
    (W : World) (hBs : W.cell? ⟨Bs, 0, none⟩ = some (.slice (some ⟨b, 0, none⟩) m cap)) (hc : ∀ j, j < m → W.rangeAt b (j * 129) (ent j)) (h0 : J [] W) :
    CallsIn F n Try.prog 57 #[.func (.yield l) #[] #[], .pointer (some ⟨Bs, 0, none⟩)] W fun e W' => (∃ v, e = .returned v) ∧
      ((∃ ys, ys = downto m m ∧ J ys W') ∨ (∃ pre, (∃ k, 1 ≤ k ∧ k ≤ m ∧ pre = downto m k) ∧ Jx pre W')) := by
  refine callsIn_of_wp Try.func57 rfl h7 ?_ hro
  simp only [Try.ntmps57, List.size_toArray, List.length_cons, List.length_nil, Nat.reduceAdd, Nat.reduceSub, Array.replicate_succ, Array.replicate_zero, List.push_toArray, List.append_toArray, List.nil_append, List.cons_append]
  gi_wp2
  gi_loopw [3] (fun i wr => ∃ (k : Nat) (z : Int), i = .int .i64 z ∧ Aside0 (z + 1 + (k : Int) = (m : Int)) ∧ k ≤ m ∧ -1 ≤ z ∧ z < 100000 ∧ J (downto m k) wr ∧ Below n₀ W wr)
    (fun i _ => (intOf i + 1).toNat)
  case atStart => exact ⟨0, (m : Int) - 1, rfl, ⟨by omega⟩, by omega, by omega, by omega, h0, Below.refl _ _⟩
  case round =>
    obtain ⟨k, z, rfl, hz, hk, hz1, hz2, hJs, hnx⟩ := hrel
    have hbs := (hnx.cell (p := ⟨Bs, 0, none⟩) hBs0).trans hBs
    by_cases g1 : 0 ≤ z
    · obtain ⟨j, rfl⟩ : ∃ j : Nat, (j : Int) = z := ⟨z.toNat, by omega⟩
      have hkj := Aside0.mk (show m - 1 - k = j ∧ k < m by have := hz.out; omega)
      have hjm : j < m := by have := hkj.out; omega
      have j1 : (j : Int) < (m : Int) := by omega
      have hcx : wr.rangeAt b (j * 129) (ent j) := fun t v hv => (hnx.cell (p := ⟨b, j * 129 + t, none⟩) hb).trans (hc j hjm t v hv)
      have HCX := Aside0.mk hcx
      have hi90 := Aside0.mk (show (Try.prog.info? 90).map (·.size) = some (ent j).length by rw [hent j hjm]; exact size90)
      obtain ⟨fn, tmps, assign, body, hy, hR⟩ := hY _ j wr hJs (by rw [downto_length]; exact hkj.out.2)
      dsimp only [encW] at hy
      clear hcx
      gi_wp2_with (first | (refine loadIn_mid rfl 90 (.tmp 15) rfl b (j * 129) rfl (ent j) _ HCX.out Try.underlying90 rfl hi90.out ?_))
      refine hR.mono ?_
      rintro e W3 (⟨rfl, hJ3, hk3⟩ | ⟨rfl, hJx3⟩)
      · gi_wp2
        exact ⟨⟨k + 1, (j : Int) - 1, rfl, ⟨by have := hz.out; omega⟩, by have := hkj.out; omega, by omega, by omega, by rw [downto_succ, hkj.out.1]; exact hJ3, hnx.trans hk3⟩, by simp [intOf] <;> omega⟩
      · gi_wp2
        refine bodyPost_ret (results_none rfl _ _ _) rfl ?_
        exact ⟨⟨_, rfl⟩, .inr ⟨_, ⟨k + 1, by omega, by have := hkj.out; omega, by rw [downto_succ, hkj.out.1]⟩, hJx3⟩⟩
    · obtain rfl : k = m := by have := hz.out; omega
      gi_wp2
      go_end0
      exact ⟨⟨_, rfl⟩, .inl hJs⟩
theorem backward_nil_in (F : Fence) (n : Nat) (h7 : F.fn 57) (hro : F.round = none) (l Bs : Nat) (J : List Nat → World → Prop) (W : World) (hBs : W.cell? ⟨Bs, 0, none⟩ = some (.slice none 0 0)) (h0 : J [] W) :
    CallsIn F n Try.prog 57 #[.func (.yield l) #[] #[], .pointer (some ⟨Bs, 0, none⟩)] W fun e W' => (∃ v, e = .returned v) ∧ J [] W' := by
  refine callsIn_of_wp Try.func57 rfl h7 ?_ hro
  simp only [Try.ntmps57, List.size_toArray, List.length_cons, List.length_nil, Nat.reduceAdd, Nat.reduceSub, Array.replicate_succ, Array.replicate_zero, List.push_toArray, List.append_toArray, List.nil_append, List.cons_append]
  gi_wp2
  gi_loopw [3] (fun i wr => i = .int .i64 (-1) ∧ J [] wr) (fun _ _ => 0)
  case atStart => exact ⟨rfl, h0⟩
  case round =>
    obtain ⟨rfl, hJs⟩ := hrel
    gi_wp2
    go_end0
    exact ⟨⟨_, rfl⟩, hJs⟩
/-- A pending write's cells. -/
def entOf (P : List (List Value × Nat)) (j : Nat) : List Value := (P.getD j (zeroSec, 0)).1 ++ [.int .i64 ((P.getD j (zeroSec, 0)).2 : Int)]
theorem flatP_at (P : List (List Value × Nat)) (hP : ∀ x ∈ P, x.1.length = 128) (j t : Nat) (hj : j < P.length) (ht : t < 129) : (flatP P)[j * 129 + t]? = (entOf P j)[t]? := by
  induction P generalizing j with
  | nil => simp at hj
  | cons x l ih =>
    have hx := hP x (List.mem_cons_self ..)
    cases j with
    | zero =>
      rw [Nat.zero_mul, Nat.zero_add, flatP]
      show (x.1 ++ Value.int .i64 (x.2 : Int) :: flatP l)[t]? = (x.1 ++ [Value.int .i64 (x.2 : Int)])[t]?
      by_cases h : t < 128
      · rw [List.getElem?_append_left (by omega), List.getElem?_append_left (by omega)]
      · obtain rfl : t = 128 := by omega
        rw [List.getElem?_append_right (by omega), List.getElem?_append_right (by omega), hx]
        rfl
    | succ j =>
      have h1 := ih (fun y hy => hP y (List.mem_cons_of_mem _ hy)) j (by simpa using hj)
      rw [flatP, show (j + 1) * 129 + t = x.1.length + (1 + (j * 129 + t)) by omega, List.getElem?_append_right (by omega), show x.1.length + (1 + (j * 129 + t)) - x.1.length = (j * 129 + t) + 1 by omega, List.getElem?_cons_succ, h1]
      rfl
theorem getP_sec (P : List (List Value × Nat)) (hP : ∀ x ∈ P, Sec x.1) (j : Nat) : Sec (P.getD j (zeroSec, 0)).1 := by
  rw [List.getD_eq_getElem?_getD]
  rcases Nat.lt_or_ge j P.length with h | h
  · rw [List.getElem?_eq_getElem h]
    exact hP _ (List.getElem_mem _)
  · rw [List.getElem?_eq_none h]
    exact zeroSec_sec
theorem entOf_len (P : List (List Value × Nat)) (hP : ∀ x ∈ P, Sec x.1) (j : Nat) : (entOf P j).length = 129 := by
  rw [entOf, List.length_append, (getP_sec P hP j).len]
  rfl
theorem entOf_one (P : List (List Value × Nat)) (hP : ∀ x ∈ P, Sec x.1) (j : Nat) : ∀ v ∈ entOf P j, v.oneCell' = true := by
  intro v hv
  rcases List.mem_append.1 hv with hv | hv
  · exact (getP_sec P hP j).bytes.one v hv
  · simp at hv; subst hv; rfl
theorem pend_ranges {w : World} {N : Nat} {pv : Value} {P : List (List Value × Nat)} (h : w.ownsRow N 90 129 pv P.length (flatP P)) (hP : ∀ x ∈ P, Sec x.1) : (pv = .slice none 0 0 ∧ P = []) ∨ ∃ g cap, pv = .slice (some ⟨g, 0, none⟩) P.length cap ∧ g < w.heap.size ∧ ∀ j, j < P.length → w.rangeAt g (j * 129) (entOf P j) := by
  obtain ⟨h1, h2⟩ := h
  rcases h2 with ⟨e, h0⟩ | ⟨g, cap, cur, e1, e2, e3, e4, e5, e6, e7⟩
  · exact Or.inl ⟨e, List.eq_nil_of_length_eq_zero h0⟩
  · refine Or.inr ⟨g, cap, e1, blk_lt e3, fun j hj t v hv => ?_⟩
    have ht : t < 129 := by
      have := (List.getElem?_eq_some_iff.1 hv).1
      rwa [entOf_len P hP j] at this
    refine (blk_cell e3 _).trans ?_
    have h3 := flatP_at P (fun x hx => (hP x hx).len) j t hj ht
    rw [← e7, List.getElem?_take_of_lt (by omega), hv] at h3
    simpa using h3
theorem Backward_calls (w : World) (v : Value) (A : Option Addr) (len cap : Nat) (hv : v = .slice A len cap) : Calls Try.prog 50 #[v] w fun e w' => e = .returned (.func (.func 57) #[] #[.pointer (some ⟨w.heap.size, 0, none⟩)]) ∧ w' = w.alloc (.cells #[v] 71) := by
  subst hv
  go_enter Try.func50, Try.ntmps50
  go_wp2
  go_ret
  exact ⟨rfl, rfl⟩
theorem backward_stops (F : Fence) (n : Nat) (h7 : F.fn 57) (hro : F.round = none) (hn : 1 ≤ n) (Bs : Nat) (pv : Value) (P : List (List Value × Nat)) (hP : ∀ x ∈ P, Sec x.1) (hm : P.length ≤ 100000) (w : World) (N : Nat) (hBs : w.cell? ⟨Bs, 0, none⟩ = some pv) (h : w.ownsRow N 90 129 pv P.length (flatP P)) :
    SeqStopsK F n Try.prog 57 #[.pointer (some ⟨Bs, 0, none⟩)] (encW (entOf P)) (Below w.heap.size) (fun ys => ys = downto P.length P.length) (fun pre => ∃ k, 1 ≤ k ∧ k ≤ P.length ∧ pre = downto P.length k) P.length w := fun l J Jx W hW _ _ hY h0 => by
  have hb := World.block_lt_of_cell? _ _ hBs
  have hc' := (hW.cell (p := ⟨Bs, 0, none⟩) hb).trans hBs
  rcases pend_ranges h hP with ⟨rfl, rfl⟩ | ⟨g, cap, rfl, hg, hr⟩
  · exact (backward_nil_in F n h7 hro l Bs J W hc' h0).mono fun e W' ⟨he, hj⟩ => ⟨he, .inl ⟨_, rfl, hj⟩⟩
  · exact backward_in F n h7 hro hn l Bs w.heap.size g P.length cap (entOf P) (fun j _ => entOf_len P hP j) hm hg hb J Jx hY W hc' (fun j hj => range_below hW (hr j hj)) h0
end Go.Proofs.Ytdjpohmgljhhcaa.A
