/- The document's Rows. -/
import Derived.Test.YtagplafbdmjagaaV24
namespace Go.Proofs.Ytagplafbdmjagaa.A
open Go.RowKit Go.Proofs.YtagplafbdmjagaaW.PrintWords Go.Proofs.YtagplafbdmjagaaW.PrintLast Go.Proofs.YtagplafbdmjagaaW.PrintMore
set_option linter.unusedVariables false
set_option maxHeartbeats 4000000
set_option maxRecDepth 100000
theorem OwnRows.mono {w : World} {base b2 : Nat} {v : Value} {L : List (Nat × Nat)} (h : OwnRows w base v L) (hb : b2 ≤ base) : OwnRows w b2 v L := by
  obtain ⟨h1, h2⟩ := h
  refine ⟨h1, ?_⟩
  rcases h2 with h2 | ⟨g, cap, cur, e1, e2, e3, e4⟩
  · exact Or.inl h2
  · exact Or.inr ⟨g, cap, cur, e1, Nat.le_trans hb e2, e3, e4⟩
theorem Tail.le {T : Nat → Bool} {n m : Nat} {L : List (Nat × Nat)} (h : Tail T n m L) : m ≤ n := by
  cases h with
  | shut h => omega
  | still L0 a m h ha hr => omega
theorem rows_at {w : World} {base : Nat} {v : Value} {L : List (Nat × Nat)} (h : OwnRows w base v L) (h0 : 0 < L.length) : ∃ g cap cells, v = .slice (some ⟨g, 0, none⟩) L.length cap ∧ base ≤ g ∧ L.length ≤ cap ∧ w.heap[g]? = some (.cells cells 28 (0, 0)) ∧ L.length * 2 ≤ cells.size := by
  obtain ⟨h1, h2⟩ := h
  rcases h2 with ⟨rfl, h0⟩ | ⟨g, cap, cur, rfl, e2, e3, e4, e5, e6, e7⟩
  · omega
  · refine ⟨g, cap, cur, rfl, e2, e4, e3, ?_⟩
    rw [e6]
    exact Nat.mul_le_mul_right _ e4
theorem flat_set (L0 : List (Nat × Nat)) (a b c : Nat) : (flat (L0 ++ [(a, b)])).set (L0.length * 2 + 1) (.int .i64 (c : Int)) = flat (L0 ++ [(a, c)]) := by
  rw [flat_append, flat_append, ← flat_len L0, List.set_append_right _ _ (by omega), show (flat L0).length + 1 - (flat L0).length = 1 by omega]
  rfl
theorem rows_set {w : World} {base g cap : Nat} {L0 : List (Nat × Nat)} {a b : Nat} (h : OwnRows w base (.slice (some ⟨g, 0, none⟩) (L0.length + 1) cap) (L0 ++ [(a, b)])) (c : Nat) : OwnRows (w.setCell ⟨g, L0.length * 2 + 1, none⟩ (.int .i64 (c : Int))) base (.slice (some ⟨g, 0, none⟩) (L0.length + 1) cap) (L0 ++ [(a, c)]) := by
  unfold OwnRows at h ⊢
  have e : (L0 ++ [(a, b)]).length = L0.length + 1 := by simp
  have e2 : (L0 ++ [(a, c)]).length = L0.length + 1 := by simp
  rw [e] at h
  rw [e2, ← flat_set L0 a b c]
  exact (h.stored _ _).1
/-- What the document's Rows tells. -/
def RowsSays (T : Nat → Bool) (n : Nat) (w : World) (e : Ending) (w' : World) : Prop :=
  ∃ v, e = .returned v ∧ OwnRows w' w.heap.size v (rowsOf T n) ∧ Below w.heap.size w w'
theorem refRows_calls {w : World} {g n c : Nat} {T : Nat → Bool} (h : BoolsAt w g n T) (hn : n ≤ 16384) : Calls Try.prog 20 #[refV g n c] w (RowsSays T n w) := by
  have HB0 := Aside0.mk (below_alloc (Below.refl _ w) (.cells #[.slice (some ⟨g, 0, none⟩) n c] 44))
  have HA := Aside0.mk (h.grown HB0.out)
  have HX := Aside0.mk (blk_new w (.cells #[.slice (some ⟨g, 0, none⟩) n c] 44))
  have HSZ := Aside0.mk (show (w.alloc (.cells #[.slice (some ⟨g, 0, none⟩) n c] 44)).heap.size = w.heap.size + 1 by simp)
  clear h
  go_enter Try.func20, Try.ntmps20
  go_wp2
  go_loopw [3, 4, 5] (fun v3 v4 v5 wr => ∃ (i m : Nat) (L : List (Nat × Nat)), v5 = .int .i64 i ∧ v4 = .int .i64 m ∧ i ≤ n ∧ m ≤ i ∧ Aside0 (Tail T i m L) ∧ Aside0 (OwnRows wr (w.heap.size + 1) v3 L) ∧ Aside0 (Below (w.heap.size + 1) (w.alloc (.cells #[.slice (some ⟨g, 0, none⟩) n c] 44)) wr)) (fun _ _ v5 _ => n - (intOf v5).toNat)
  case atStart => exact ⟨0, 0, [], rfl, rfl, by omega, by omega, ⟨Tail.nil T⟩, ⟨World.ownsRow_nil _ _ _ _⟩, ⟨Below.refl _ _⟩⟩
  case round =>
    obtain ⟨i, m, L, rfl, rfl, hi, hm, HT, HO, HB⟩ := hrel
    have HA2 := Aside0.mk (HA.out.grown (by rw [HSZ.out]; exact HB.out))
    have hcb : wr.cell? ⟨w.heap.size, 0, none⟩ = some (.slice (some ⟨g, 0, none⟩) n c) := by
      refine (blk_cell ((HB.out.block _ (by omega)).trans HX.out) 0).trans rfl
    by_cases g1 : i < n
    · have hc := HA2.out.cell i g1
      have i0 : (0 : Int) ≤ (i : Int) := by omega
      have i1 : (i : Int) < (n : Int) := by omega
      cases ht : T i with
      | true =>
        rw [ht] at hc
        have HN := Aside0.mk (HT.out.on ht)
        clear ht
        go_wp2
        exact ⟨⟨i + 1, 0, L, by go_num, rfl, by omega, by omega, HN, HO, HB⟩, by simp [intOf]; omega⟩
      | false =>
        rw [ht] at hc
        by_cases g2 : m = 0
        · subst g2
          have HN := Aside0.mk (HT.out.first ht)
          have HL := Aside0.mk HT.out.len
          clear ht
          obtain ⟨v1, w1, hr, ho, hb⟩ := rows_append (wr.alloc (.cells #[.int .i64 (i : Int), .int .i64 0] 28)) (w.heap.size + 1) u3 L i 0 wr.heap.size (own_below HO.out (below_alloc (Below.refl _ _) _)) (by have := HB.out.size; rw [HSZ.out] at this; simp; omega) (by have := HL.out; omega) (blk_new wr _)
          have hr2 : (Builtin.append_ #[26, 26] 26 #[u3, .slice (some ⟨wr.heap.size, 0, none⟩) 1 1]).run Try.prog (wr.alloc (.cells #[.int .i64 (i : Int), .int .i64 0] 28)) = .ok v1 w1 := hr
          have HR := Aside0.mk hr2
          obtain ⟨g1, cap1, cells1, rfl, hg1, hcap1, hblk, hsz1⟩ := rows_at ho (by simp)
          have e1 : (L ++ [(i, 0)]).length = L.length + 1 := by simp
          rw [e1] at ho hcap1 hsz1 hr2 HR
          have HO1 := Aside0.mk (rows_set ho 1)
          have HB1 := Aside0.mk (((HB.out.alloc (by have := HB.out.size; rw [HSZ.out] at this; exact this) (.cells #[.int .i64 (i : Int), .int .i64 0] 28)).trans (hb.mono (by simp))).setCell (p := ⟨g1, L.length * 2 + 1, none⟩) hg1 (.int .i64 1))
          have hfr : w1.frozen? ⟨g1, L.length * 2 + 1, none⟩ = false := by simp [World.frozen?, hblk]
          obtain ⟨old, hcl⟩ : ∃ old, w1.cell? ⟨g1, L.length * 2 + 1, none⟩ = some old := ⟨cells1[L.length * 2 + 1]'(by omega), (blk_cell hblk _).trans (Array.getElem?_eq_getElem (by omega))⟩
          have hL16 : L.length ≤ 16384 := by have := HL.out; omega
          clear ho hb hr hr2 hblk hg1 hcap1 e1
          generalize L.length = nL at *
          go_wp2_with (first | ((with_reducible refine gate_dst (N := 26) rfl ?_); refine append_event rfl (.tmp 22) (.tmp 25) 26 rfl rfl rfl HR.out ?_))
          exact ⟨⟨i + 1, 1, _, by go_num, rfl, by omega, by omega, HN, HO1, HB1⟩, by simp [intOf]; omega⟩
        · obtain ⟨L0, a, rfl, hT⟩ := HT.out.more (by omega) ht
          have HN := Aside0.mk hT
          have HL := Aside0.mk HT.out.len
          have e1 : (L0 ++ [(a, m)]).length = L0.length + 1 := by simp
          obtain ⟨g1, cap1, cells1, rfl, hg1, hcap1, hblk, hsz1⟩ := rows_at HO.out (by simp)
          have ho := HO.out
          rw [e1] at ho hcap1 hsz1 HL
          rw [e1]
          have HO1 := Aside0.mk (rows_set ho (m + 1))
          have HB1 := Aside0.mk (HB.out.setCell (p := ⟨g1, L0.length * 2 + 1, none⟩) hg1 (.int .i64 ((m + 1 : Nat) : Int)))
          have hfr : wr.frozen? ⟨g1, L0.length * 2 + 1, none⟩ = false := by simp [World.frozen?, hblk]
          obtain ⟨old, hcl⟩ : ∃ old, wr.cell? ⟨g1, L0.length * 2 + 1, none⟩ = some old := ⟨cells1[L0.length * 2 + 1]'(by omega), (blk_cell hblk _).trans (Array.getElem?_eq_getElem (by omega))⟩
          have hL16 : L0.length ≤ 16384 := by have := HL.out; omega
          have m1 : (1 : Int) ≤ (m : Int) := by omega
          have m2 : ¬ (m : Int) + 1 = 1 := by omega
          have m3 : (m : Int) ≤ 16384 := by omega
          clear ho hblk hg1 hcap1 e1 ht hT HO
          rw [show ((m + 1 : Nat) : Int) = (m : Int) + 1 by omega] at HO1 HB1
          generalize L0.length = nL at *
          go_wp2
          exact ⟨⟨i + 1, m + 1, _, by go_num, by go_num, by omega, by omega, HN, HO1, HB1⟩, by simp [intOf]; omega⟩
    · obtain rfl : i = n := by omega
      have HE := Aside0.mk HT.out.rows
      go_wp2
      go_ret
      exact ⟨_, rfl, by rw [← HE.out]; exact OwnRows.mono HO.out (by omega), HB0.out.trans (HB.out.mono (by omega))⟩
end Go.Proofs.Ytagplafbdmjagaa.A
