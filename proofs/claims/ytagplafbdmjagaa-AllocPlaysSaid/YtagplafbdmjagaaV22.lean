/- The document's alloc in memory; New, Free. -/
import Derived.Test.YtagplafbdmjagaaV21
namespace Go.Proofs.Ytagplafbdmjagaa.A
open Go.RowKit Go.Proofs.YtagplafbdmjagaaW.PrintWords Go.Proofs.YtagplafbdmjagaaW.PrintLast Go.Proofs.YtagplafbdmjagaaW.PrintMore
set_option linter.unusedVariables false
set_option maxHeartbeats 4000000
set_option maxRecDepth 100000
/-- Cells that say which pages are taken. -/
structure BoolsAt (w : World) (g n : Nat) (T : Nat → Bool) : Prop where
  block : ∃ cells, w.heap[g]? = some (.cells cells 4 (0, 0)) ∧ ∀ i, i < n → cells[i]? = some (.bool (T i))
theorem BoolsAt.cell {w : World} {g n : Nat} {T : Nat → Bool} (h : BoolsAt w g n T) (i : Nat) (hi : i < n) : w.cell? ⟨g, i, none⟩ = some (.bool (T i)) := by
  obtain ⟨cells, h1, h2⟩ := h.block
  exact (blk_cell h1 i).trans (h2 i hi)
theorem BoolsAt.lt {w : World} {g n : Nat} {T : Nat → Bool} (h : BoolsAt w g n T) : g < w.heap.size := by
  obtain ⟨cells, h1, h2⟩ := h.block
  exact blk_lt h1
theorem BoolsAt.grown {w w' : World} {g n : Nat} {T : Nat → Bool} (h : BoolsAt w g n T) (hb : Below w.heap.size w w') : BoolsAt w' g n T := by
  obtain ⟨cells, h1, h2⟩ := h.block
  exact ⟨cells, blk_below h1 hb, h2⟩
theorem BoolsAt.drawn {w w' : World} {g n : Nat} {T : Nat → Bool} (h : BoolsAt w g n T) (hb : Drawn0 w w') : BoolsAt w' g n T := h.grown hb.below
theorem BoolsAt.own {w w' : World} {g n q : Nat} {T : Nat → Bool} (h : BoolsAt w g n T) (hb : Own q w w') (hq : g ≠ q) : BoolsAt w' g n T := by
  obtain ⟨cells, h1, h2⟩ := h.block
  exact ⟨cells, (hb.block g (blk_lt h1) hq).trans h1, h2⟩
/-- The document's alloc, as a value. -/
abbrev refV (g n c : Nat) : Value := .agg #[.slice (some ⟨g, 0, none⟩) n c]
theorem refNew_bad (n : Int) (h : n < 1 ∨ 16384 < n) (w : World) : Calls Try.prog 17 #[.int .i64 n] w fun e w' => e = .returned (.tuple #[.agg #[.slice none 0 0], .int .i64 2]) ∧ Below w.heap.size w w' := by
  rcases h with h | h
  · go_enter Try.func17, Try.ntmps17
    go_wp2
    exact bodyPost_ret (v := .tuple #[.agg #[.slice none 0 0], .int .i64 2]) (by simp [results, Try.results17, go_sem]) rfl ⟨rfl, (Below.refl _ _).alloc (Nat.le_refl _) _⟩
  · have h2 : ¬ n < 1 := by omega
    go_enter Try.func17, Try.ntmps17
    go_wp2
    exact bodyPost_ret (v := .tuple #[.agg #[.slice none 0 0], .int .i64 2]) (by simp [results, Try.results17, go_sem]) rfl ⟨rfl, (Below.refl _ _).alloc (Nat.le_refl _) _⟩
theorem made_bools (m i : Nat) (hi : i < m) : (madeCells #[.bool false] m)[i]? = some (.bool false) := by
  simp [madeCells, hi, Nat.mod_one]
theorem refNew_calls (n : Nat) (h1 : 1 ≤ n) (h2 : n ≤ 16384) (x : Int) (hx : (n : Int) = x) (w : World) : Calls Try.prog 17 #[.int .i64 x] w fun e w' => ∃ g, e = .returned (.tuple #[refV g n n, .int .i64 0]) ∧ w.heap.size ≤ g ∧ BoolsAt w' g n (fun _ => false) ∧ Below w.heap.size w w' := by
  subst hx
  have hm := print_make_of (P := Try.prog) 42 4 (.bool false) 1 Try.underlying42 (by kernel_rfl) rfl (by decide) n (by omega)
  have g1 : ¬ (n : Int) < 1 := by omega
  have g2 : ¬ (16384 : Int) < (n : Int) := by omega
  have g3 : ¬ 16384 < n := by omega
  go_enter Try.func17, Try.ntmps17
  go_wp2
  exact bodyPost_ret (v := .tuple #[refV (w.heap.size + 1) n n, .int .i64 0]) (by simp [results, Try.results17, go_sem]) rfl ⟨_, rfl, by omega, ⟨_, (show ((w.alloc (.cells #[.slice (some ⟨w.heap.size + 1, 0, none⟩) n n] 44)).alloc (.cells (madeCells #[.bool false] n) 4)).heap[w.heap.size + 1]? = some (.cells (madeCells #[.bool false] n) 4) by
    have := blk_new (w.alloc (.cells #[.slice (some ⟨w.heap.size + 1, 0, none⟩) n n] 44)) (.cells (madeCells #[.bool false] n) 4)
    simpa using this), fun i hi => made_bools n i hi⟩, ((Below.refl _ _).alloc (Nat.le_refl _) _).alloc (by simp) _⟩
theorem refFree_calls {w : World} {g n c : Nat} {T : Nat → Bool} (h : BoolsAt w g n T) (hn : n ≤ 16384) (F : Nat) (hF : F + cnt T n = n) : Calls Try.prog 19 #[refV g n c] w fun e w' => e = .returned (.int .i64 (F : Int)) ∧ Below w.heap.size w w' := by
  have HF := Aside0.mk hF
  have HA := Aside0.mk (h.grown (below_alloc (Below.refl _ _) (.cells #[.slice (some ⟨g, 0, none⟩) n c] 44)))
  clear hF h
  go_enter Try.func19, Try.ntmps19
  go_wp2
  go_loopw [3, 4] (fun v3 v4 wr => ∃ (i k : Nat), v4 = .int .i64 i ∧ v3 = .int .i64 k ∧ i ≤ n ∧ k ≤ i ∧ Aside0 (k + cnt T i = i) ∧ wr = w.alloc (.cells #[.slice (some ⟨g, 0, none⟩) n c] 44)) (fun _ v4 _ => n - (intOf v4).toNat)
  case atStart => exact ⟨0, 0, rfl, rfl, by omega, by omega, ⟨rfl⟩, rfl⟩
  case round =>
    obtain ⟨i, k, rfl, rfl, hi, hk, HC, rfl⟩ := hrel
    by_cases g1 : i < n
    · have hc := HA.out.cell i g1
      have i1 : (i : Int) < (n : Int) := by omega
      have i0 : (0 : Int) ≤ (i : Int) := by omega
      cases ht : T i with
      | true =>
        rw [ht] at hc
        have HN := Aside0.mk (show k + cnt T (i + 1) = i + 1 by rw [cnt, ht]; have := HC.out; simp; omega)
        clear ht
        go_wp2
        exact ⟨⟨i + 1, k, by go_num, rfl, by omega, by omega, HN, trivial⟩, by simp [intOf]; omega⟩
      | false =>
        rw [ht] at hc
        have HN := Aside0.mk (show (k + 1) + cnt T (i + 1) = i + 1 by rw [cnt, ht]; have := HC.out; simp; omega)
        clear ht
        go_wp2
        exact ⟨⟨i + 1, k + 1, by go_num, by go_num, by omega, by omega, HN, trivial⟩, by simp [intOf]; omega⟩
    · obtain rfl : i = n := by omega
      have HE := Aside0.mk (show k = F by have := HC.out; have := HF.out; omega)
      go_wp2
      go_ret
      exact ⟨by rw [← HE.out]; rfl, (Below.refl _ _).alloc (Nat.le_refl _) _⟩
theorem clone_bools (w : World) (q W c : Nat) (u : Nat → Bool) (hW : 1 ≤ W) (hl : W ≤ 16384) (b : Nat) (hb : w.heap[b]? = some (.cells #[] 4 (0, 0))) (hq : ∀ i, i < W → w.cell? ⟨q, i, none⟩ = some (.bool (u i))) (N : Nat) (hN : N ≤ b) :
    ∃ g cap w', (Builtin.append_ #[42, 42] 42 #[.slice (some ⟨b, 0, none⟩) 0 0, .slice (some ⟨q, 0, none⟩) W c]).run Try.prog w = .ok (.slice (some ⟨g, 0, none⟩) W cap) w' ∧ W ≤ cap ∧ N ≤ g ∧ BoolsAt w' g W u ∧ Below N w w' := by
  have hi : (Try.prog.info? 4).map (fun i => (i.zero, i.size, i.bytes)) = some (some (.bool false), 1, 1) := by kernel_rfl
  obtain ⟨i, h1, h2⟩ := Option.map_eq_some_iff.1 hi
  simp only [Prod.mk.injEq] at h2
  obtain ⟨hz, hs, hy⟩ := h2
  have hbl : b < w.heap.size := blk_lt hb
  obtain ⟨v', w', hr, ho, hg, _⟩ := run_append_own (P := Try.prog) w N 42 42 4 i (.bool false) 1 1 Try.underlying42 h1 hz hs hy rfl (by decide) (.slice (some ⟨b, 0, none⟩) 0 0) 0 []
    ⟨rfl, Or.inr ⟨b, 0, #[], rfl, hN, hb, Nat.le_refl _, by decide, rfl, rfl⟩⟩ ⟨q, 0, none⟩ W c ((List.range W).map fun i => .bool (u i)) (by simp)
    (by
      intro j x hj
      rw [List.getElem?_map] at hj
      obtain ⟨k, hk, rfl⟩ := Option.map_eq_some_iff.1 hj
      obtain ⟨hjl, hk2⟩ := List.getElem?_eq_some_iff.1 hk
      simp at hjl hk2
      subst hk2
      have := hq j hjl
      rw [Addr.add_lit]
      simpa using this)
    (by
      intro x hx
      obtain ⟨k, _, rfl⟩ := List.mem_map.1 hx
      rfl)
    (by simp [maxLen]; omega) (by omega) (by omega)
  obtain ⟨hlen, ho⟩ := ho
  rcases ho with ⟨rfl, h0⟩ | ⟨g, cap, cur, rfl, hgN, hgh, hcap, _, hcs, ht⟩
  · omega
  · refine ⟨g, cap, w', by simpa using hr, by omega, hgN, ⟨cur, hgh, ?_⟩, hg.os, hg.tape, hg.output, hg.size, fun k hk => hg.block k (by omega) (by simp [Value.ownBlock]; omega)⟩
    intro i hi
    have := congrArg (fun l => l[i]?) ht
    simp only [Nat.zero_add, Nat.mul_one, List.nil_append, List.getElem?_map, List.getElem?_take] at this
    rw [if_pos hi] at this
    simpa [hi] using this
theorem BoolsAt.put {w : World} {g n : Nat} {T : Nat → Bool} (h : BoolsAt w g n T) (z : Nat) (hz : z < n) (b : Bool) : BoolsAt (w.setCell ⟨g, z, none⟩ (.bool b)) g n (fun x => if x = z then b else T x) := by
  obtain ⟨cells, h1, h2⟩ := h.block
  refine ⟨_, blk_setCell_self h1 _, fun i hi => ?_⟩
  have hl : z < cells.size := by
    have := h2 z hz
    rcases Nat.lt_or_ge z cells.size with hl | hg
    · exact hl
    · rw [Array.getElem?_eq_none hg] at this; simp at this
  rw [Array.getElem?_setIfInBounds]
  by_cases e : z = i
  · subst e; simp [hl]
  · rw [if_neg e, if_neg (Ne.symm e)]; exact h2 i hi
theorem BoolsAt.congr {w : World} {g n : Nat} {T T' : Nat → Bool} (h : BoolsAt w g n T) (e : ∀ x, x < n → T x = T' x) : BoolsAt w g n T' := by
  obtain ⟨cells, h1, h2⟩ := h.block
  exact ⟨cells, h1, fun i hi => by rw [← e i hi]; exact h2 i hi⟩
theorem refWith_calls {w : World} {g n c : Nat} {T : Nat → Bool} (h : BoolsAt w g n T) (h1 : 1 ≤ n) (hn : n ≤ 16384) (i k : Nat) (hi : i + k ≤ n) (tk : Bool) (x y : Int) (hx : (i : Int) = x) (hy : (k : Int) = y) : Calls Try.prog 34 #[refV g n c, .int .i64 x, .int .i64 y, .bool tk] w fun e w' => ∃ g2 c2, e = .returned (refV g2 n c2) ∧ w.heap.size ≤ g2 ∧ BoolsAt w' g2 n (setT T i k tk) ∧ Below w.heap.size w w' := by
  subst hx hy
  have hb0 : Below w.heap.size w (((w.alloc (.cells #[.slice (some ⟨g, 0, none⟩) n c] 44)).alloc (.cells #[.slice none 0 0] 44)).alloc (.cells #[] 4)) := (((Below.refl _ _).alloc (Nat.le_refl _) _).alloc (by simp) _).alloc (by simp; omega) _
  obtain ⟨g2, c2, w2, hr, hcap, hg2, hbl, hbw⟩ := clone_bools (((w.alloc (.cells #[.slice (some ⟨g, 0, none⟩) n c] 44)).alloc (.cells #[.slice none 0 0] 44)).alloc (.cells #[] 4)) g n c T h1 hn (w.heap.size + 1 + 1) (by
    have := blk_new ((w.alloc (.cells #[.slice (some ⟨g, 0, none⟩) n c] 44)).alloc (.cells #[.slice none 0 0] 44)) (.cells #[] 4)
    simpa using this) (fun i hi => (h.grown hb0).cell i hi) (w.heap.size + 1 + 1) (Nat.le_refl _)
  have HR := Aside0.mk hr
  have HBL := Aside0.mk hbl
  have HBW := Aside0.mk (hb0.trans (hbw.mono (by omega)))
  have HRS := Aside0.mk (show w2.heap[w.heap.size + 1]? = some (.cells #[.slice none 0 0] 44 (0, 0)) by
    rw [hbw.block _ (by omega)]
    have := blk_new (w.alloc (.cells #[.slice (some ⟨g, 0, none⟩) n c] 44)) (.cells #[.slice none 0 0] 44)
    rw [Below.heap_alloc _ _ _ (by simp)]
    simpa using this)
  have HG := Aside0.mk hg2
  have HG0 := Aside0.mk (show w.heap.size ≤ g2 by omega)
  clear hr hbl hbw h
  go_enter Try.func34, Try.ntmps34
  go_wp2_with (first | ((with_reducible refine gate_dst (N := 14) rfl ?_); refine append_event rfl (.tmp 11) (.tmp 13) 42 rfl rfl rfl HR.out ?_))
  go_loopw [10] (fun v10 wr => ∃ (j : Nat), v10 = .int .i64 j ∧ j ≤ k ∧ Aside0 (BoolsAt wr g2 n (setT T i j tk)) ∧ Aside0 (Below w.heap.size w wr) ∧ Aside0 (wr.heap[w.heap.size + 1]? = some (.cells #[.slice none 0 0] 44 (0, 0)))) (fun v10 _ => k - (intOf v10).toNat)
  case atStart => exact ⟨0, rfl, by omega, ⟨by rw [setT_nil]; exact HBL.out⟩, HBW, HRS⟩
  case round =>
    obtain ⟨j, rfl, hj, HA, HB, HS⟩ := hrel
    by_cases g1 : j < k
    · obtain ⟨z, hz⟩ : ∃ z, i + j = z := ⟨_, rfl⟩
      have HZ := Aside0.mk (show ((i : Int) + (j : Int)) = (z : Int) by omega)
      have i1 : (j : Int) < (k : Int) := by omega
      have i2 : (i : Int) + (j : Int) < (n : Int) := by omega
      have i4 : (0 : Int) ≤ (i : Int) + (j : Int) := by omega
      have i5 : i + j < n := by omega
      have HP := Aside0.mk (show BoolsAt (wr.setCell ⟨g2, i + j, none⟩ (.bool tk)) g2 n (setT T i (j + 1) tk) from (HA.out.put (i + j) (by omega) tk).congr (fun x _ => (setT_snoc T i j tk x).symm))
      have hc := HA.out.cell (i + j) (by omega)
      have hfr : wr.frozen? ⟨g2, i + j, none⟩ = false := by
        obtain ⟨cells, q1, q2⟩ := HA.out.block
        simp [World.frozen?, q1]
      clear hz
      go_wp2
      exact ⟨⟨j + 1, by go_num, by omega, HP, ⟨HB.out.setCell HG0.out _⟩, ⟨(Below.heap_setCell _ _ _ _ (by have := HG.out; simp; omega)).trans HS.out⟩⟩, by simp [intOf]; omega⟩
    · obtain rfl : j = k := by omega
      have hc : wr.cell? ⟨w.heap.size + 1, 0, none⟩ = some (.slice none 0 0) := (blk_cell HS.out 0).trans rfl
      have hfr : wr.frozen? ⟨w.heap.size + 1, 0, none⟩ = false := by simp [World.frozen?, HS.out]
      go_wp2
      have hres : (wr.setCell ⟨w.heap.size + 1, 0, none⟩ (.slice (some ⟨g2, 0, none⟩) n c2)).cell? ⟨w.heap.size + 1, 0, none⟩ = some (.slice (some ⟨g2, 0, none⟩) n c2) := (blk_cell (blk_setCell_self HS.out _) 0).trans rfl
      exact bodyPost_ret (v := refV g2 n c2) (by simp [results, Try.results34, go_sem, hres]) rfl ⟨g2, c2, rfl, HG0.out, HA.out.own (Own.setCell _ _ _ _) (by have := HG.out; omega), HB.out.setCell (by simp) _⟩
end Go.Proofs.Ytagplafbdmjagaa.A
