/- Rows. -/
import Derived.Test.YtagplafbdmjagaaV9
import Derived.Below
import Derived.Deep.Draws
import Derived.Deep.AppendLies
import Derived.Maps.AppendAt
import Derived.OwnWalk
import Derived.Laws.BytesArg
import Derived.Laws.MakeOwn
import Derived.Laws.OwnMore
import Derived.Deep.OwnRows
import Derived.Tactics
import Derived.Lib.ConvBytes
import Derived.Laws.Slices
import Derived.WalkKit
import Derived.KernelRfl
import Derived.RowKit3
import Derived.Deep.LoopGhost
import Derived.Deep.QuietTactic
import Derived.BigQuiet
import Derived.WideLaws
import Derived.Deep.DeepCutAuto
import Derived.Deep.CutBlock
import Derived.Deep.RegionHeld3
import Derived.Laws.Rows
import Derived.Lib.AppendStr
import Derived.ArgAppend
import Derived.Laws.IdiomCopy
import Derived.OrdersHeld
import Derived.Laws.BitsLemmas
import Derived.RowKit
import Derived.Laws.Cover1
import Derived.Deep.RegionWith
import Derived.Deep.RegionLaw
import Derived.WalkMore
import Derived.ScopeJumps
import Derived.Test.YtagplafbdmjagaaWWords
import Derived.Test.YtagplafbdmjagaaWLast
import Derived.Test.YtagplafbdmjagaaWTab
import Derived.Test.YtagplafbdmjagaaWFour
import Derived.Test.YtagplafbdmjagaaWQPut
import Derived.Test.YtagplafbdmjagaaWApart
import Derived.Test.YtagplafbdmjagaaWArr
import Derived.Test.YtagplafbdmjagaaWZeros
import Derived.Test.YtagplafbdmjagaaWFoot
import Derived.Test.YtagplafbdmjagaaWKept
import Derived.Test.YtagplafbdmjagaaWShare
import Derived.Test.YtagplafbdmjagaaWN
import Derived.Test.YtagplafbdmjagaaWFootNe
import Derived.Test.YtagplafbdmjagaaWAt
import Derived.Test.YtagplafbdmjagaaWEqStruct
import Derived.Test.YtagplafbdmjagaaWRepsOne
import Derived.Test.YtagplafbdmjagaaWInv
import Derived.Test.YtagplafbdmjagaaWInvWords
import Derived.Test.YtagplafbdmjagaaWGuard
import Derived.Test.YtagplafbdmjagaaWNEv
import Derived.Test.YtagplafbdmjagaaWMore
import Derived.Laws.BitsAllLaws
namespace Go.Proofs.Ytagplafbdmjagaa.A
open Go.RowKit Go.Proofs.YtagplafbdmjagaaW.PrintWords Go.Proofs.YtagplafbdmjagaaW.PrintLast Go.Proofs.YtagplafbdmjagaaW.PrintMore
set_option linter.unusedVariables false
set_option maxHeartbeats 4000000
set_option maxRecDepth 100000
/-- All free rows, from one page on. -/
def rowsFrom (T : Nat → Bool) (n : Nat) : Nat → Nat → List (Nat × Nat)
  | 0, _ => []
  | f + 1, i => if i < n then (if 0 < freeFrom T i (n - i) then (i, freeFrom T i (n - i)) :: rowsFrom T n f (i + freeFrom T i (n - i) + 1) else rowsFrom T n f (i + 1)) else []
theorem rowsFrom_fuel (T : Nat → Bool) (n f g i : Nat) (hf : n ≤ f + i) (hg : n ≤ g + i) : rowsFrom T n f i = rowsFrom T n g i := by
  induction f generalizing g i with
  | zero =>
    cases g with
    | zero => rfl
    | succ g => rw [rowsFrom, rowsFrom, if_neg (by omega)]
  | succ f ih =>
    cases g with
    | zero => rw [rowsFrom, rowsFrom, if_neg (by omega)]
    | succ g =>
      rw [rowsFrom, rowsFrom]
      split
      · split
        · rw [ih g _ (by omega) (by omega)]
        · rw [ih g _ (by omega) (by omega)]
      · rfl
def rowsOf (T : Nat → Bool) (n : Nat) : List (Nat × Nat) := rowsFrom T n n 0
theorem rows_on (T : Nat → Bool) (n i : Nat) (hi : i < n) (hk : 0 < freeFrom T i (n - i)) : rowsFrom T n n i = (i, freeFrom T i (n - i)) :: rowsFrom T n n (i + freeFrom T i (n - i) + 1) := by
  rw [rowsFrom_fuel T n n (n + 1) i (by omega) (by omega), rowsFrom, if_pos hi, if_pos hk]
theorem rows_off (T : Nat → Bool) (n i : Nat) (hi : i < n) (hk : freeFrom T i (n - i) = 0) : rowsFrom T n n i = rowsFrom T n n (i + 1) := by
  rw [rowsFrom_fuel T n n (n + 1) i (by omega) (by omega), rowsFrom, if_pos hi, if_neg (by omega)]
theorem rows_end (T : Nat → Bool) (n i : Nat) (hi : n ≤ i) : rowsFrom T n n i = [] := by
  rw [rowsFrom_fuel T n n 0 i (by omega) (by omega), rowsFrom]
/-- The rows' cells. -/
def flat : List (Nat × Nat) → List Value
  | [] => []
  | r :: l => .int .i64 (r.1 : Int) :: .int .i64 (r.2 : Int) :: flat l
theorem flat_append (a b : List (Nat × Nat)) : flat (a ++ b) = flat a ++ flat b := by
  induction a with
  | nil => rfl
  | cons r l ih => simp [flat, ih]
theorem flat_len (a : List (Nat × Nat)) : (flat a).length = a.length * 2 := by
  induction a with
  | nil => rfl
  | cons r l ih => simp [flat, ih]; omega
/-- A slice of rows of the call's own. -/
def OwnRows (w : World) (base : Nat) (v : Value) (L : List (Nat × Nat)) : Prop := w.ownsRow base 28 2 v L.length (flat L)
theorem own_below {w w' : World} {base e size n : Nat} {v : Value} {xs : List Value} (h : w.ownsRow base e size v n xs) (hb : Below w.heap.size w w') : w'.ownsRow base e size v n xs := by
  obtain ⟨h1, h2⟩ := h
  refine ⟨h1, ?_⟩
  rcases h2 with h2 | ⟨g, cap, cur, e1, e2, e3, e4⟩
  · exact Or.inl h2
  · exact Or.inr ⟨g, cap, cur, e1, e2, (hb.block g (blk_lt e3)).trans e3, e4⟩
theorem rows_append (W : World) (base : Nat) (v : Value) (L : List (Nat × Nat)) (a k b : Nat) (ho : OwnRows W base v L) (hbase : base ≤ W.heap.size) (hl : L.length ≤ 16400) (hb : W.heap[b]? = some (.cells #[.int .i64 (a : Int), .int .i64 (k : Int)] 28 (0, 0))) :
    ∃ v1 w1, (Builtin.append_ #[26, 26] 26 #[v, .slice (some ⟨b, 0, none⟩) 1 1]).run Try.prog W = .ok v1 w1 ∧ OwnRows w1 base v1 (L ++ [(a, k)]) ∧ Below base W w1 := by
  have hi : (Try.prog.info? 28).map (fun i => (i.zero, i.size, i.bytes)) = some (some (.agg #[.int .i64 0, .int .i64 0]), 2, 16) := by kernel_rfl
  obtain ⟨i, h1, h2⟩ := Option.map_eq_some_iff.1 hi
  simp only [Prod.mk.injEq] at h2
  obtain ⟨hz, hs, hy⟩ := h2
  obtain ⟨v', w', hr, hown, hg, _⟩ := run_append_own (P := Try.prog) W base 26 26 28 i (.agg #[.int .i64 0, .int .i64 0]) 2 16 Try.underlying26 h1 hz hs hy rfl (by decide) v L.length (flat L) ho ⟨b, 0, none⟩ 1 1 [.int .i64 (a : Int), .int .i64 (k : Int)] rfl
    (by
      intro j x hj
      rw [Addr.add_lit]
      refine (blk_cell hb _).trans ?_
      rw [Nat.zero_add]
      simpa using hj)
    (by
      intro x hx
      simp at hx
      rcases hx with rfl | rfl <;> rfl)
    (by simp [maxLen]; omega) (by omega) hbase
  refine ⟨v', w', hr, ?_, ⟨hg.os, hg.tape, hg.output, hg.size, fun j hj => hg.block j (by omega) (fun e => ?_)⟩⟩
  · unfold OwnRows
    rw [flat_append, List.length_append]
    exact hown
  · have := World.ownsRow.lt ho j e.symm
    omega
theorem Rows_nil (w : World) : Calls Try.prog 10 #[.pointer none] w fun e w' => e = .returned (.slice none 0 0) ∧ w' = w := by
  go_enter Try.func10, Try.ntmps10
  go_wp2_with (first | (go_at_call 23; (with_reducible refine (made_nil _).mono ?_); rintro e w1 ⟨rfl, rfl⟩))
  go_ret
  exact ⟨rfl, rfl⟩
theorem Rows_zero (w : World) (p : Nat) (v : Value) (h : w.heap[p]? = some (.cells #[.int .i64 0, v] 55 (0, 0))) : Calls Try.prog 10 #[.pointer (some ⟨p, 0, none⟩)] w fun e w' => e = .returned (.slice none 0 0) ∧ w' = w := by
  go_enter Try.func10, Try.ntmps10
  go_wp2_with (first | (go_at_call 23; (with_reducible refine (made_zero _ p v h).mono ?_); rintro e w1 ⟨rfl, rfl⟩))
  go_ret
  exact ⟨rfl, rfl⟩
theorem Rows_calls {w : World} {p q n : Nat} {T : Nat → Bool} (h : IsAlloc w p q n T) : Calls Try.prog 10 #[.pointer (some ⟨p, 0, none⟩)] w fun e w' => ∃ v, e = .returned v ∧ OwnRows w' w.heap.size v (rowsOf T n) ∧ Below w.heap.size w w' := by
  have HA := Aside0.mk h
  have hn : n ≤ 16384 := by
    obtain ⟨c, cells, u, h⟩ := h
    exact h.most
  clear h
  go_enter Try.func10, Try.ntmps10
  go_wp2_with (first | (go_at_call 23; (with_reducible refine (made_calls HA.out).mono ?_); rintro e W0 ⟨rfl, rfl⟩))
  go_loopw [3, 4] (fun v vi wr => ∃ (i : Nat) (L : List (Nat × Nat)), vi = .int .i64 i ∧ i ≤ n + 1 ∧ L.length ≤ i ∧ Aside0 (L ++ rowsFrom T n n i = rowsOf T n) ∧ Aside0 (OwnRows wr W0.heap.size v L) ∧ Aside0 (Below W0.heap.size W0 wr)) (fun _ vi _ => n + 1 - (intOf vi).toNat)
  case atStart => exact ⟨0, [], rfl, by omega, by simp, ⟨rfl⟩, ⟨World.ownsRow_nil _ _ _ _⟩, ⟨Below.refl _ _⟩⟩
  case round =>
    obtain ⟨i, L, rfl, hi, hL, HL, HO, HB⟩ := hrel
    have HA2 := Aside0.mk (HA.out.grown HB.out)
    have hc0 : wr.cell? ⟨p, 0, none⟩ = some (.int .i64 (n : Int)) := by
      obtain ⟨c, cells, u, h⟩ := HA2.out
      exact (blk_cell h.self 0).trans rfl
    by_cases g1 : i < n
    · have HI := Aside0.mk (show i ≤ n by omega)
      have HN := Aside0.mk (show n < 9223372036854775808 by omega)
      obtain ⟨k, hk⟩ : ∃ k, freeFrom T i (n - i) = k := ⟨_, rfl⟩
      have hkn : k ≤ n - i := by rw [← hk]; exact freeFrom_le T i (n - i)
      have HK := Aside0.mk (show min n (freeFrom T i (n - i)) = k by omega)
      by_cases g2 : 0 < k
      · have HR := Aside0.mk (show (L ++ [(i, k)]) ++ rowsFrom T n n (i + k + 1) = rowsOf T n by rw [← HL.out, rows_on T n i g1 (by omega), hk]; simp)
        have HX := Aside0.mk (show ∀ m : Nat, ∃ v1 w1, (Builtin.append_ #[26, 26] 26 #[u3, .slice (some ⟨wr.heap.size, 0, none⟩) 1 1]).run Try.prog ((wr.drewN m).alloc (.cells #[.int .i64 (i : Int), .int .i64 (k : Int)] 28)) = .ok v1 w1 ∧ OwnRows w1 W0.heap.size v1 (L ++ [(i, k)]) ∧ Below W0.heap.size W0 w1 from fun m => by
          have hb1 : Below W0.heap.size W0 ((wr.drewN m).alloc (.cells #[.int .i64 (i : Int), .int .i64 (k : Int)] 28)) := (pw_below_drewN HB.out m).alloc HB.out.size _
          obtain ⟨v1, w1, h1, h2, h3⟩ := rows_append ((wr.drewN m).alloc (.cells #[.int .i64 (i : Int), .int .i64 (k : Int)] 28)) W0.heap.size u3 L i k wr.heap.size (own_below HO.out ((pw_below_drewN (Below.refl _ _) m).alloc (Nat.le_refl _) _)) hb1.size (by omega) (blk_new (wr.drewN m) _)
          exact ⟨v1, w1, h1, h2, hb1.trans h3⟩)
        go_wp2_with (first | (go_at_call 24; (with_reducible refine (run_calls HA2.out i n HI.out HN.out _ _ rfl rfl k HK.out).mono ?_); rintro e w2 ⟨rfl, ⟨m1, rfl⟩⟩) | ((with_reducible refine gate_dst (N := 31) rfl ?_); obtain ⟨v1, w4, hr4, ho4, hb4⟩ := HX.out m1; have HO4 := Aside0.mk ho4; have HB4 := Aside0.mk hb4; refine append_event rfl (.tmp 26) (.tmp 30) 26 rfl rfl rfl hr4 ?_; clear hr4 ho4 hb4))
        exact ⟨⟨i + k + 1, L ++ [(i, k)], by go_num, by omega, by simp; omega, HR, HO4, HB4⟩, by simp [intOf]; omega⟩
      · have g3 : k = 0 := by omega
        subst g3
        have HR := Aside0.mk (show L ++ rowsFrom T n n (i + 1) = rowsOf T n by rw [← HL.out, rows_off T n i g1 hk])
        go_wp2_with (first | (go_at_call 24; (with_reducible refine (run_calls HA2.out i n HI.out HN.out _ _ rfl rfl 0 HK.out).mono ?_); rintro e w2 ⟨rfl, ⟨m1, rfl⟩⟩))
        exact ⟨⟨i + 1, L, by go_num, by omega, by omega, HR, ⟨own_below HO.out (by repeat (first | exact Below.refl _ _ | apply pw_below_drewN))⟩, ⟨by repeat (first | exact HB.out | apply pw_below_drewN)⟩⟩, by simp [intOf]; omega⟩
    · have HR := Aside0.mk (show L = rowsOf T n by rw [← HL.out, rows_end T n i (by omega)]; simp)
      go_wp2
      go_ret
      exact ⟨_, rfl, by rw [← HR.out]; exact HO.out, HB.out⟩
end Go.Proofs.Ytagplafbdmjagaa.A
