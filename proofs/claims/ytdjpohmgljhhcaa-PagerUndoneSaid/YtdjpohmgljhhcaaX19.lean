/- Which pages are something: those, Pages, Free; lists of ints compared. -/
import Derived.Test.YtdjpohmgljhhcaaX18
namespace Go.Proofs.Ytdjpohmgljhhcaa.A
open Go.RowKit Go.Proofs.YtdjpohmgljhhcaaW.PrintWords Go.Proofs.YtdjpohmgljhhcaaW.PrintLast Go.Proofs.YtdjpohmgljhhcaaW.PrintMore
set_option linter.unusedVariables false
set_option linter.unusedSimpArgs false
set_option maxHeartbeats 4000000
set_option maxRecDepth 100000
/-- The pages that are something. -/
def filt (n : Nat) (S : Nat → Nat) (s : Nat) : List Nat := (List.range n).filter fun i => decide (S i = s)
theorem filt_succ (n : Nat) (S : Nat → Nat) (s : Nat) : filt (n + 1) S s = filt n S s ++ (if S n = s then [n] else []) := by
  unfold filt
  rw [List.range_succ, List.filter_append]
  congr 1
  by_cases h : S n = s <;> simp [h]
theorem filt_len (n : Nat) (S : Nat → Nat) (s : Nat) : (filt n S s).length ≤ n := by
  have := List.length_filter_le (fun i => decide (S i = s)) (List.range n)
  simpa [filt] using this
/-- Ints' cells. -/
def ints (L : List Nat) : List Value := L.map fun (x : Nat) => Value.int .i64 (x : Int)
/-- A slice of ints of the call's own. -/
def OwnInts (w : World) (base : Nat) (v : Value) (L : List Nat) : Prop := w.ownsRow base 3 1 v L.length (ints L)
theorem OwnInts.grown {w w' : World} {base : Nat} {v : Value} {L : List Nat} (h : OwnInts w base v L) (hb : Below w.heap.size w w') : OwnInts w' base v L := own_below h hb
theorem OwnInts.moves {M : TypeId → Bool} {N : Nat} {w w' : World} {base : Nat} {v : Value} {L : List Nat} (h : OwnInts w base v L) (hm : Moves M N w w') (h3 : M 3 = false) : OwnInts w' base v L := own_moves h hm h3
theorem OwnInts.mono {w : World} {base b2 : Nat} {v : Value} {L : List Nat} (h : OwnInts w base v L) (hb : b2 ≤ base) : OwnInts w b2 v L := by
  obtain ⟨h1, h2⟩ := h
  refine ⟨h1, ?_⟩
  rcases h2 with h2 | ⟨g, cap, cur, e1, e2, e3, e4⟩
  · exact Or.inl h2
  · exact Or.inr ⟨g, cap, cur, e1, Nat.le_trans hb e2, e3, e4⟩
theorem info3 : (Try.prog.info? 3).map (fun i => (i.zero, i.size, i.bytes)) = some (some (.int .i64 0), 1, 8) := by kernel_rfl
theorem ints_append (W : World) (base : Nat) (v : Value) (L : List Nat) (x b : Nat) (ho : OwnInts W base v L) (hbase : base ≤ W.heap.size) (hl : L.length ≤ 100000) (hb : W.heap[b]? = some (.cells #[.int .i64 (x : Int)] 3 (0, 0))) :
    ∃ v1 w1, (Builtin.append_ #[31, 31] 31 #[v, .slice (some ⟨b, 0, none⟩) 1 1]).run Try.prog W = .ok v1 w1 ∧ OwnInts w1 base v1 (L ++ [x]) ∧ Below base W w1 := by
  obtain ⟨i, h1, h2⟩ := Option.map_eq_some_iff.1 info3
  simp only [Prod.mk.injEq] at h2
  obtain ⟨hz, hs, hy⟩ := h2
  obtain ⟨v', w', hr, hown, hg, _⟩ := run_append_own (P := Try.prog) W base 31 31 3 i (.int .i64 0) 1 8 Try.underlying31 h1 hz hs hy rfl (by decide) v L.length (ints L) ho ⟨b, 0, none⟩ 1 1 [.int .i64 (x : Int)] rfl
    (by
      intro j y hj
      rw [Addr.add_lit]
      refine (blk_cell hb _).trans ?_
      rw [Nat.zero_add]
      simpa using hj)
    (by
      intro y hy
      simp at hy
      subst hy
      rfl)
    (by simp [maxLen]; omega) (by omega) hbase
  refine ⟨v', w', hr, ?_, ⟨hg.os, hg.tape, hg.output, hg.size, fun j hj => hg.block j (by omega) (fun e => ?_)⟩⟩
  · unfold OwnInts ints
    rw [List.map_append, List.length_append]
    exact hown
  · have := World.ownsRow.lt ho j e.symm
    omega
/-- What those tells. -/
def ThosSays (L : List Nat) (w : World) (e : Ending) (w' : World) : Prop := ∃ v, e = .returned v ∧ OwnInts w' w.heap.size v L ∧ Below w.heap.size w w'
theorem those_calls {N : Nat} {w : World} {p d fr n dn : Nat} {S : Nat → Nat} {K : Nat → List Value} {P : List (List Value × Nat)} (h : IsPager N w p d fr n dn S K P) (s : Nat) (x : Int) (hx : (s : Int) = x) : Calls Try.prog 24 #[.pointer (some ⟨p, 0, none⟩), .int .i64 x] w (ThosSays (filt n S s) w) := by
  subst hx
  have hn := h.range.2.1
  obtain ⟨a, q, kq, sq, c, h⟩ := h
  have HP := Aside0.mk h.states
  have hc3 : w.cell? ⟨p, 3, none⟩ = some (.slice (some ⟨sq, 0, none⟩) n c) := (blk_cell h.self 3).trans rfl
  clear h
  go_enter Try.func24, Try.ntmps24
  go_wp2
  go_loopw [5, 13] (fun v5 v wr => ∃ (k : Nat), v = .int .i64 (k : Int) ∧ k ≤ n ∧ Aside0 (OwnInts wr w.heap.size v5 (filt k S s)) ∧ Aside0 (Below w.heap.size w wr)) (fun _ v _ => n - (intOf v).toNat)
  case atStart => exact ⟨0, rfl, by omega, ⟨World.ownsRow_nil _ _ _ _⟩, ⟨Below.refl _ _⟩⟩
  case round =>
    obtain ⟨k, rfl, hk, HO, HB⟩ := hrel
    by_cases g1 : k < n
    · have hst := HP.out.cell k g1
      have hst1 := (HB.out.cell (p := ⟨sq, k, none⟩) (World.block_lt_of_cell? _ _ hst.1)).trans hst.1
      have i0 : (0 : Int) ≤ (k : Int) := by omega
      have i1 : (k : Int) < (n : Int) := by omega
      clear hst
      by_cases g2 : S k = s
      · have HN := Aside0.mk (show filt (k + 1) S s = filt k S s ++ [k] by rw [filt_succ, if_pos g2])
        obtain ⟨v1, w1, hr, ho, hb⟩ := ints_append (wr.alloc (.cells #[.int .i64 (k : Int)] 3)) w.heap.size u5 (filt k S s) k wr.heap.size (own_below HO.out (below_alloc (Below.refl _ _) _)) (by have := HB.out.size; simp; omega) (by have := filt_len k S s; omega) (blk_new wr _)
        have HR := Aside0.mk hr
        have HO1 := Aside0.mk ho
        have HB1 := Aside0.mk ((HB.out.alloc HB.out.size (.cells #[.int .i64 (k : Int)] 3)).trans hb)
        rw [g2] at hst1
        clear g2 hr ho hb
        go_wp2_with (first | ((with_reducible refine gate_dst (N := 24) rfl ?_); refine append_event rfl (.tmp 21) (.tmp 23) 31 rfl rfl rfl HR.out ?_))
        exact ⟨⟨k + 1, by go_num, by omega, by rw [HN.out]; exact HO1, HB1⟩, by simp [intOf]; omega⟩
      · have HN := Aside0.mk (show filt (k + 1) S s = filt k S s by rw [filt_succ, if_neg g2, List.append_nil])
        obtain ⟨t, ht⟩ : ∃ t, S k = t := ⟨_, rfl⟩
        rw [ht] at hst1 g2
        have g3 : ¬ (t : Int) = (s : Int) := by omega
        clear ht g2
        go_wp2
        exact ⟨⟨k + 1, by go_num, by omega, by rw [HN.out]; exact HO, HB⟩, by simp [intOf]; omega⟩
    · obtain rfl : k = n := by omega
      go_wp2
      go_ret
      exact ⟨_, rfl, HO.out, HB.out⟩
/-- What Pages tells. -/
def PagesSay (n : Nat) (S : Nat → Nat) (w : World) (e : Ending) (w' : World) : Prop := ∃ v1 v2 v3, e = .returned (.tuple #[v1, v2, v3]) ∧ OwnInts w' w.heap.size v1 (filt n S 1) ∧ OwnInts w' w.heap.size v2 (filt n S 2) ∧ OwnInts w' w.heap.size v3 (filt n S 3) ∧ Below w.heap.size w w'
theorem Pages_calls {N : Nat} {w : World} {p d fr n dn : Nat} {S : Nat → Nat} {K : Nat → List Value} {P : List (List Value × Nat)} (h : IsPager N w p d fr n dn S K P) : Calls Try.prog 10 #[.pointer (some ⟨p, 0, none⟩)] w (PagesSay n S w) := by
  have H := Aside0.mk h
  clear h
  go_enter Try.func10, Try.ntmps10
  go_wp2_with fail
  (with_reducible refine (pmade_calls H.out).mono ?_)
  rintro e w1 ⟨rfl, rfl⟩
  go_wp2_with fail
  (with_reducible refine (those_calls H.out 1 1 rfl).mono ?_)
  rintro e w1 ⟨v1, rfl, ho1, hb1⟩
  have H1 := Aside0.mk (H.out.grown hb1)
  have HO1 := Aside0.mk ho1
  have HB1 := Aside0.mk hb1
  clear ho1 hb1
  go_wp2_with fail
  (with_reducible refine (those_calls H1.out 2 2 rfl).mono ?_)
  rintro e w2 ⟨v2, rfl, ho2, hb2⟩
  have H2 := Aside0.mk (H1.out.grown hb2)
  have HO12 := Aside0.mk (HO1.out.grown hb2)
  have HO2 := Aside0.mk (ho2.mono HB1.out.size)
  have HB2 := Aside0.mk (HB1.out.trans (hb2.mono HB1.out.size))
  clear ho2 hb2
  go_wp2_with fail
  (with_reducible refine (those_calls H2.out 3 3 rfl).mono ?_)
  rintro e w3 ⟨v3, rfl, ho3, hb3⟩
  have HO13 := Aside0.mk (HO12.out.grown hb3)
  have HO23 := Aside0.mk (HO2.out.grown hb3)
  have HO3 := Aside0.mk (ho3.mono HB2.out.size)
  have HB3 := Aside0.mk (HB2.out.trans (hb3.mono HB2.out.size))
  clear ho3 hb3
  go_wp2
  go_ret3
  exact ⟨_, _, _, rfl, HO13.out, HO23.out, HO3.out, HB3.out⟩
theorem pFree_calls {N : Nat} {w : World} {p d fr n dn : Nat} {S : Nat → Nat} {K : Nat → List Value} {P : List (List Value × Nat)} (h : IsPager N w p d fr n dn S K P) (F : Nat) (hF : F + cnt (tk n S) n = n) : Calls Try.prog 11 #[.pointer (some ⟨p, 0, none⟩)] w fun e w' => e = .returned (.int .i64 (F : Int)) ∧ Drawn0 w w' := by
  have H := Aside0.mk h
  have HF := Aside0.mk hF
  obtain ⟨a, q, kq, sq, c, h⟩ := h
  have HA := Aside0.mk h.alloc
  have hc0 : w.cell? ⟨p, 0, none⟩ = some (.pointer (some ⟨a, 0, none⟩)) := (blk_cell h.self 0).trans rfl
  clear h hF
  go_enter Try.func11, Try.ntmps11
  go_wp2_with (first | (go_at_call 23; (with_reducible refine (pmade_calls H.out).mono ?_); rintro e w1 ⟨rfl, rfl⟩) | (go_at_call 25; (with_reducible refine (Free_calls HA.out F HF.out).mono ?_); rintro e w1 ⟨rfl, ⟨m1, rfl⟩⟩))
  go_ret
  exact ⟨rfl, ⟨⟨_, rfl⟩⟩⟩
/-- A slice of ints, to be read. -/
structure NumsIn (w : World) (v : Value) (A : Option Addr) (c : Nat) (L : List Nat) : Prop where
  val : v = .slice A L.length c
  cell : ∀ j, j < L.length → ∃ g, A = some ⟨g, 0, none⟩ ∧ w.cell? ⟨g, j, none⟩ = some (.int .i64 ((L.getD j 0 : Nat) : Int))
theorem OwnInts.inside {w : World} {base : Nat} {v : Value} {L : List Nat} (h : OwnInts w base v L) : ∃ A c, NumsIn w v A c L := by
  obtain ⟨h1, h2⟩ := h
  rcases h2 with ⟨rfl, h0⟩ | ⟨g, cap, cur, rfl, e2, e3, e4, e5, e6, e7⟩
  · exact ⟨none, 0, by rw [h0], fun j hj => by omega⟩
  · refine ⟨_, cap, rfl, fun j hj => ⟨g, rfl, ?_⟩⟩
    refine (blk_cell e3 _).trans ?_
    have h3 : (ints L)[j]? = some (.int .i64 ((L.getD j 0 : Nat) : Int)) := by
      rw [ints, List.getElem?_map, List.getElem?_eq_getElem hj, List.getD_eq_getElem?_getD, List.getElem?_eq_getElem hj]
      rfl
    rw [← e7, List.getElem?_take_of_lt (by omega)] at h3
    simpa using h3
theorem NumsIn.below {w w' : World} {v : Value} {A : Option Addr} {c : Nat} {L : List Nat} (h : NumsIn w v A c L) (hb : Below w.heap.size w w') : NumsIn w' v A c L where
  val := h.val
  cell := by
    intro j hj
    obtain ⟨g, e, h1⟩ := h.cell j hj
    exact ⟨g, e, (hb.cell (p := ⟨g, j, none⟩) (World.block_lt_of_cell? _ _ h1)).trans h1⟩
theorem take_eq (L1 L2 : List Nat) (j : Nat) (h1 : j < L1.length) (h2 : j < L2.length) (ht : L1.take j = L2.take j) (hj : L1.getD j 0 = L2.getD j 0) : L1.take (j + 1) = L2.take (j + 1) := by
  rw [List.take_add_one, List.take_add_one, ht]
  rw [List.getD_eq_getElem?_getD, List.getD_eq_getElem?_getD, List.getElem?_eq_getElem h1, List.getElem?_eq_getElem h2] at hj
  rw [List.getElem?_eq_getElem h1, List.getElem?_eq_getElem h2]
  simp only [Option.getD_some] at hj
  rw [hj]
theorem same_len {w : World} {v1 v2 : Value} {A1 A2 : Option Addr} {c1 c2 : Nat} {L1 L2 : List Nat} (h1 : NumsIn w v1 A1 c1 L1) (h2 : NumsIn w v2 A2 c2 L2) (hl1 : L1.length ≤ 100000) (hl2 : L2.length ≤ 100000) (hne : L1.length ≠ L2.length) : Calls Try.prog 14 #[v1, v2] w fun e w' => e = .returned (.bool (decide (L1 = L2))) ∧ Drawn0 w w' := by
  obtain ⟨rfl, -⟩ := h1
  obtain ⟨rfl, -⟩ := h2
  have HD := Aside0.mk (show decide (L1 = L2) = false from decide_eq_false (fun e => hne (by rw [e])))
  have hne2 : ¬ ((L1.length : Nat) : Int) = (L2.length : Int) := by omega
  generalize L1.length = n1 at *
  generalize L2.length = n2 at *
  go_enter Try.func14, Try.ntmps14
  go_wp2
  go_ret
  exact ⟨by rw [HD.out]; rfl, Drawn0.refl _⟩
theorem same_eq {w : World} {v1 v2 : Value} {A1 A2 : Option Addr} {c1 c2 : Nat} {L1 L2 : List Nat} (h1 : NumsIn w v1 A1 c1 L1) (h2 : NumsIn w v2 A2 c2 L2) (hl1 : L1.length ≤ 100000) (he : L1.length = L2.length) : Calls Try.prog 14 #[v1, v2] w fun e w' => e = .returned (.bool (decide (L1 = L2))) ∧ Drawn0 w w' := by
  have H1 := Aside0.mk h1
  have H2 := Aside0.mk h2
  obtain ⟨rfl, -⟩ := h1
  obtain ⟨rfl, -⟩ := h2
  obtain ⟨n1, hn1⟩ : ∃ n1, L1.length = n1 := ⟨_, rfl⟩
  have HN1 := Aside0.mk hn1
  have HN2 := Aside0.mk (he.symm.trans hn1)
  rw [← he, hn1]
  rw [hn1] at hl1
  clear he hn1
  go_enter Try.func14, Try.ntmps14
  go_wp2
  go_loopw [5] (fun vi wr => ∃ j : Nat, vi = .int .i64 j ∧ j ≤ n1 ∧ Aside0 (L1.take j = L2.take j) ∧ Drawn0 w wr) (fun vi _ => n1 - (intOf vi).toNat)
  case atStart => exact ⟨0, rfl, by omega, ⟨by simp⟩, by repeat (first | exact Drawn0.refl _ | apply Drawn0.step)⟩
  case round =>
    obtain ⟨j, rfl, hj, HT, ⟨nd, rfl⟩⟩ := hrel
    by_cases g1 : j < n1
    · obtain ⟨ga, ea, ca1⟩ := H1.out.cell j (by rw [HN1.out]; exact g1)
      obtain ⟨gb, eb, cb1⟩ := H2.out.cell j (by rw [HN2.out]; exact g1)
      by_cases g2 : L1.getD j 0 = L2.getD j 0
      · have HT2 := Aside0.mk (take_eq L1 L2 j (by rw [HN1.out]; exact g1) (by rw [HN2.out]; exact g1) HT.out g2)
        rw [← g2] at cb1
        clear g2
        generalize L1.getD j 0 = x1 at *
        subst ea eb
        have b0 : (0 : Int) ≤ (j : Int) := by omega
        have b1 : (j : Int) < (n1 : Int) := by omega
        go_wp2
        go_quiet (fail)
        go_wp2
        exact ⟨⟨j + 1, by go_num, by omega, HT2, ⟨⟨_, rfl⟩⟩⟩, by simp [intOf]; omega⟩
      · have HD := Aside0.mk (show decide (L1 = L2) = false from decide_eq_false (fun e => g2 (by rw [e])))
        obtain ⟨x1, hx⟩ : ∃ x, L1.getD j 0 = x := ⟨_, rfl⟩
        obtain ⟨y1, hy⟩ : ∃ x, L2.getD j 0 = x := ⟨_, rfl⟩
        rw [hx] at ca1 g2
        rw [hy] at cb1 g2
        have hq : ((x1 : Int) != (y1 : Int)) = true := by rw [bne_iff_ne]; omega
        clear hx hy g2
        subst ea eb
        have b0 : (0 : Int) ≤ (j : Int) := by omega
        have b1 : (j : Int) < (n1 : Int) := by omega
        go_wp2
        go_quiet (fail)
        go_wp2
        go_ret
        exact ⟨by rw [HD.out]; rfl, ⟨⟨_, World.drewN_drewN _ _ _⟩⟩⟩
    · have HD := Aside0.mk (show decide (L1 = L2) = true by
        have e := HT.out
        rw [List.take_of_length_le (by rw [HN1.out]; omega), List.take_of_length_le (by rw [HN2.out]; omega)] at e
        exact decide_eq_true e)
      go_wp2
      go_ret
      exact ⟨by rw [HD.out]; rfl, ⟨⟨_, rfl⟩⟩⟩
theorem Same_calls {w : World} {v1 v2 : Value} {A1 A2 : Option Addr} {c1 c2 : Nat} {L1 L2 : List Nat} (h1 : NumsIn w v1 A1 c1 L1) (h2 : NumsIn w v2 A2 c2 L2) (hl1 : L1.length ≤ 100000) (hl2 : L2.length ≤ 100000) : Calls Try.prog 14 #[v1, v2] w fun e w' => e = .returned (.bool (decide (L1 = L2))) ∧ Drawn0 w w' := by
  by_cases h : L1.length = L2.length
  · exact same_eq h1 h2 hl1 h
  · exact same_len h1 h2 hl1 hl2 h
end Go.Proofs.Ytdjpohmgljhhcaa.A
