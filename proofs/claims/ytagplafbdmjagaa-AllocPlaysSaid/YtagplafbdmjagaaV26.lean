/- The document's Take. -/
import Derived.Test.YtagplafbdmjagaaV25
namespace Go.Proofs.Ytagplafbdmjagaa.A
open Go.RowKit Go.Proofs.YtagplafbdmjagaaW.PrintWords Go.Proofs.YtagplafbdmjagaaW.PrintLast Go.Proofs.YtagplafbdmjagaaW.PrintMore
set_option linter.unusedVariables false
set_option maxHeartbeats 4000000
set_option maxRecDepth 100000
/-- What the document's Take tells. -/
def RefTakes (T : Nat → Bool) (n : Nat) (k : Int) (w : World) (e : Ending) (w' : World) : Prop :=
  ∃ (i : Nat) (er : Int) (T' : Nat → Bool) (g2 c2 : Nat), e = .returned (.tuple #[refV g2 n c2, .int .i64 (i : Int), .int .i64 er]) ∧ TakeR T n k i er T' ∧ BoolsAt w' g2 n T' ∧ Below w.heap.size w w'
theorem refTake_calls {w : World} {g n c : Nat} {T : Nat → Bool} (h : BoolsAt w g n T) (h1 : 1 ≤ n) (hn : n ≤ 16384) (k : Int) (hk : k < 9223372036854775808) : Calls Try.prog 31 #[refV g n c, .int .i64 k] w (RefTakes T n k w) := by
  have HB := fun u => Aside0.mk (boxW_below w (.slice (some ⟨g, 0, none⟩) n c) u)
  have HA := fun u => Aside0.mk (h.grown (HB u).out)
  have HS := Aside0.mk (boxW_res w (.slice (some ⟨g, 0, none⟩) n c) (.slice none 0 0))
  have HX := Aside0.mk (show (boxW w (.slice (some ⟨g, 0, none⟩) n c) (.slice none 0 0)).heap[w.heap.size]? = some (.cells #[.slice (some ⟨g, 0, none⟩) n c] 44 (0, 0)) from (Below.heap_alloc _ _ _ (by simp)).trans (blk_new w _))
  have HGl := Aside0.mk h.lt
  clear h
  by_cases g1 : k < 1
  · go_enter Try.func31, Try.ntmps31
    go_wp2
    exact bodyPost_ret (v := .tuple #[refV g n c, .int .i64 0, .int .i64 2]) (by simp [results, Try.results31, go_sem]) rfl ⟨0, 2, T, g, c, rfl, Or.inl ⟨g1, rfl, rfl, rfl⟩, (HA _).out, (HB _).out⟩
  · obtain ⟨K, rfl⟩ : ∃ K : Nat, (K : Int) = k := ⟨k.toNat, by omega⟩
    have HK := Aside0.mk (show 1 ≤ K by omega)
    have k2 : (1 : Int) ≤ (K : Int) := by omega
    have HL := Aside0.mk (rows_len T n n 0)
    have HW := Aside0.mk (rows_want T n K n 0 HK.out (by omega))
    have HM := Aside0.mk (show ∀ r ∈ rowsOf T n, r.1 < n ∧ r.2 ≤ n from rows_cell)
    have hHL : Aside0 ((rowsOf T n).length ≤ n) := HL
    have hHW : Aside0 ((∃ x, 0 ≤ x ∧ RowAt T n x K ∧ (∀ y, 0 ≤ y → y < x → ¬ RowAt T n y K) ∧ wantOf K (rowsOf T n) = (x : Int)) ∨ ((∀ y, 0 ≤ y → ¬ RowAt T n y K) ∧ wantOf K (rowsOf T n) = -1)) := HW
    clear HL HW
    have HRC := Aside0.mk (refRows_calls (c := c) (HA (.slice none 0 0)).out hn)
    unfold RowsSays at HRC
    generalize rowsOf T n = L at *
    generalize hnL : L.length = nL at *
    have HN := Aside0.mk hnL
    have hl16 : nL ≤ 16384 := by have := hHL.out; omega
    clear g1 hnL hk
    go_enter Try.func31, Try.ntmps31
    go_wp2_with (first | (go_at_call 20; (with_reducible refine HRC.out.mono ?_); rintro e w2 ⟨v2, rfl, ho, hb⟩; have HO2 := Aside0.mk ho; obtain ⟨A2, c2, hin⟩ := ho.inside; have HI := Aside0.mk hin; have hv2 := hin.val; rw [HN.out] at hv2; obtain rfl := hv2; have HB2 := Aside0.mk hb; have hb4 : w2.heap[w.heap.size + 1]? = some (.cells #[.slice none 0 0] 44 (0, 0)) := (hb.block _ (blk_lt HS.out)).trans HS.out; have hb2 : w2.heap[w.heap.size]? = some (.cells #[.slice (some ⟨g, 0, none⟩) n c] 44 (0, 0)) := (hb.block _ (blk_lt HX.out)).trans HX.out; have HS2 := Aside0.mk hb4; have HX2 := Aside0.mk hb2; have HA2 := Aside0.mk ((HA (.slice none 0 0)).out.grown hb); clear ho hb hin hb4 hb2))
    go_loopw [8] (fun v8 wr => ∃ (i : Nat), v8 = .int .i64 i ∧ i ≤ nL ∧ Aside0 (wantOf K L = wantOf K (L.drop i)) ∧ wr = w2) (fun v8 _ => nL - (intOf v8).toNat)
    case atStart => exact ⟨0, rfl, by omega, ⟨rfl⟩, rfl⟩
    case round =>
      obtain ⟨i, rfl, hi, HV, rfl⟩ := hrel
      have hcb : wr.cell? ⟨w.heap.size, 0, none⟩ = some (.slice (some ⟨g, 0, none⟩) n c) := (blk_cell HX2.out 0).trans rfl
      have hcr : wr.cell? ⟨w.heap.size + 1, 0, none⟩ = some (.slice none 0 0) := (blk_cell HS2.out 0).trans rfl
      have hfr : wr.frozen? ⟨w.heap.size + 1, 0, none⟩ = false := by simp [World.frozen?, HS2.out]
      by_cases g1 : i < nL
      · have hiL := Aside0.mk (show i < L.length by rw [HN.out]; exact g1)
        have i0 : (0 : Int) ≤ (i : Int) := by omega
        have i1 : (i : Int) < (nL : Int) := by omega
        obtain ⟨g9, hg, c0, c1⟩ := HI.out.cell i hiL.out
        obtain rfl := hg
        have HXX := Aside0.mk (show wantOf K L = if K ≤ (L.getD i (0, 0)).2 then ((L.getD i (0, 0)).1 : Int) else wantOf K (L.drop (i + 1)) by rw [HV.out, drop_at L i hiL.out, wantOf])
        have hmem := HM.out (L.getD i (0, 0)) (by rw [List.getD_eq_getElem?_getD, List.getElem?_eq_getElem hiL.out]; exact List.getElem_mem _)
        generalize L.getD i (0, 0) = r at *
        obtain ⟨a, m⟩ := r
        simp only at c0 c1 hmem
        obtain ⟨hm1, hm2⟩ := hmem
        by_cases g2 : K ≤ m
        · have HY := Aside0.mk (show wantOf K L = (a : Int) by rw [HXX.out]; exact if_pos g2)
          clear HXX
          have g3 : (K : Int) ≤ (m : Int) := by omega
          have HT := Aside0.mk (show RowAt T n a K ∧ ∀ y, y < a → ¬ RowAt T n y K by
            rcases hHW.out with ⟨x, _, x2, x3, x4⟩ | ⟨_, x4⟩
            · rw [HY.out] at x4
              obtain rfl : a = x := by omega
              exact ⟨x2, fun y => x3 y (by omega)⟩
            · rw [HY.out] at x4
              omega)
          have hne : ¬ g9 = w.heap.size + 1 ∧ ¬ w.heap.size + 1 = g9 := by
            obtain ⟨g', cap', cells', e, hg', _⟩ := rows_at HO2.out (by rw [HN.out]; omega)
            simp only [Value.slice.injEq, Option.some.injEq, Addr.mk.injEq, and_true] at e
            simp at hg'
            omega
          obtain ⟨hne1, hne2⟩ := hne
          have HAd := Aside0.mk (show BoolsAt wr.drew g n T from HA2.out.drawn (by repeat (first | exact Drawn0.refl _ | apply Drawn0.step)))
          have HKn := Aside0.mk HT.out.1.1
          have HBd := Aside0.mk (show Below w.heap.size w wr.drew from (below_drew1 ((HB (.slice none 0 0)).out.trans (HB2.out.mono (HB (.slice none 0 0)).out.size))))
          have HSd := Aside0.mk (show wr.drew.heap[w.heap.size + 1]? = some (.cells #[.slice none 0 0] 44 (0, 0)) from HS2.out)
          have HXd := Aside0.mk (show wr.drew.heap[w.heap.size]? = some (.cells #[.slice (some ⟨g, 0, none⟩) n c] 44 (0, 0)) from HX2.out)
          have HC0 := Aside0.mk (show wr.drew.cell? ⟨g9, i * 2, none⟩ = some (.int .i64 (a : Int)) from c0)
          have hlt9 : g9 < wr.drew.heap.size := World.block_lt_of_cell? _ _ HC0.out
          have HL9 := Aside0.mk hlt9
          clear hlt9
          go_wp2
          go_region_held3 (fun w' => w'.cell? ⟨g9, i * 2, none⟩ = some (.int .i64 (a : Int)) ∧ w'.cell? ⟨w.heap.size, 0, none⟩ = some (.slice (some ⟨g, 0, none⟩) n c)) (go_keep) (first | (go_at_call 34; (with_reducible refine (refWith_calls HAd.out h1 hn a K HKn.out true _ _ rfl rfl).mono ?_); rintro e w4 ⟨g2, c4, rfl, hg2, hbl, hb⟩; have HBL := Aside0.mk hbl; have HB4 := Aside0.mk (HBd.out.trans (hb.mono HBd.out.size)); have HS4 := Aside0.mk ((hb.block _ (blk_lt HSd.out)).trans HSd.out); have HG2 := Aside0.mk hg2; have hcr4 : w4.cell? ⟨w.heap.size + 1, 0, none⟩ = some (.slice none 0 0) := (blk_cell HS4.out 0).trans rfl; have hfr4 : w4.frozen? ⟨w.heap.size + 1, 0, none⟩ = false := (by simp [World.frozen?, HS4.out]); have hc04 : w4.cell? ⟨g9, i * 2, none⟩ = some (.int .i64 (a : Int)) := (hb.cell (p := ⟨g9, i * 2, none⟩) HL9.out).trans HC0.out; have hcb4 : w4.cell? ⟨w.heap.size, 0, none⟩ = some (.slice (some ⟨g, 0, none⟩) n c) := (blk_cell ((hb.block _ (blk_lt HXd.out)).trans HXd.out) 0).trans rfl; clear hbl hb hg2))
          go_wp2
          have hres := res_cell HS4.out (.slice (some ⟨g2, 0, none⟩) n c4)
          exact bodyPost_ret (v := .tuple #[refV g2 n c4, .int .i64 (a : Int), .int .i64 0]) (by simp [results, Try.results31, go_sem, hres]) rfl ⟨a, 0, _, g2, c4, rfl, Or.inr (Or.inl ⟨k2, by rw [Int.toNat_natCast]; exact HT.out.1, by rw [Int.toNat_natCast]; exact HT.out.2, rfl, by rw [Int.toNat_natCast]⟩), HBL.out.own (Own.setCell _ (w.heap.size + 1) _ _) (by have h1 := HG2.out; have h2 := blk_lt HSd.out; omega), HB4.out.setCell (by simp) _⟩
        · have HY := Aside0.mk (show wantOf K L = wantOf K (L.drop (i + 1)) by rw [HXX.out]; exact if_neg g2)
          clear HXX
          have g3 : ¬ (K : Int) ≤ (m : Int) := by omega
          go_wp2
          exact ⟨⟨i + 1, by go_num, by omega, HY, trivial⟩, by simp [intOf]; omega⟩
      · obtain rfl : i = nL := by omega
        have HY := Aside0.mk (show ∀ y, ¬ RowAt T n y K by
          have hv := HV.out
          rw [← HN.out, List.drop_length, wantOf] at hv
          rcases hHW.out with ⟨x, _, x2, x3, x4⟩ | ⟨x1, _⟩
          · rw [hv] at x4; omega
          · exact fun y => x1 y (by omega))
        go_wp2
        have hres := res_cell HS2.out (.slice (some ⟨g, 0, none⟩) n c)
        exact bodyPost_ret (v := .tuple #[refV g n c, .int .i64 0, .int .i64 10]) (by simp [results, Try.results31, go_sem, hres]) rfl ⟨0, 10, T, g, c, rfl, Or.inr (Or.inr ⟨k2, by rw [Int.toNat_natCast]; exact HY.out, rfl, rfl, rfl⟩), HA2.out.own (Own.setCell _ (w.heap.size + 1) _ _) (by have := HGl.out; omega), ((HB (.slice none 0 0)).out.trans (HB2.out.mono (HB (.slice none 0 0)).out.size)).setCell (by simp) _⟩
end Go.Proofs.Ytagplafbdmjagaa.A
