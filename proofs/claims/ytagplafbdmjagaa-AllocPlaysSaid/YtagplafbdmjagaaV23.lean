/- The document's Claim and Give. -/
import Derived.Test.YtagplafbdmjagaaV22
namespace Go.Proofs.Ytagplafbdmjagaa.A
open Go.RowKit Go.Proofs.YtagplafbdmjagaaW.PrintWords Go.Proofs.YtagplafbdmjagaaW.PrintLast Go.Proofs.YtagplafbdmjagaaW.PrintMore
set_option linter.unusedVariables false
set_option maxHeartbeats 4000000
set_option maxRecDepth 100000
/-- A result's cell, written behind calls. -/
theorem res_cell {w : World} {b : Nat} {v : Value} (h : w.heap[b]? = some (.cells #[v] 44 (0, 0))) (u : Value) : (w.setCell ⟨b, 0, none⟩ u).cell? ⟨b, 0, none⟩ = some u := (blk_cell (blk_setCell_self h u) 0).trans rfl
/-- The world behind a boxed argument and a result's cell. -/
abbrev boxW (w : World) (v u : Value) : World := (w.alloc (.cells #[v] 44)).alloc (.cells #[u] 44)
theorem boxW_below (w : World) (v u : Value) : Below w.heap.size w (boxW w v u) := ((Below.refl _ _).alloc (Nat.le_refl _) _).alloc (by simp) _
theorem boxW_res (w : World) (v u : Value) : (boxW w v u).heap[w.heap.size + 1]? = some (.cells #[u] 44 (0, 0)) := by
  have := blk_new (w.alloc (.cells #[v] 44)) (.cells #[u] 44)
  simpa using this
/-- What the document's call tells: an alloc and an errno. -/
def RefSays (R : Int → (Nat → Bool) → Prop) (n : Nat) (w : World) (e : Ending) (w' : World) : Prop :=
  ∃ er T' g2 c2, e = .returned (.tuple #[refV g2 n c2, .int .i64 er]) ∧ R er T' ∧ BoolsAt w' g2 n T' ∧ Below w.heap.size w w'
theorem refClaim_calls {w : World} {g n c : Nat} {T : Nat → Bool} (h : BoolsAt w g n T) (h1 : 1 ≤ n) (hn : n ≤ 16384) (i : Int) : Calls Try.prog 29 #[refV g n c, .int .i64 i] w (RefSays (ClaimR T n i) n w) := by
  have HB := fun u => Aside0.mk (boxW_below w (.slice (some ⟨g, 0, none⟩) n c) u)
  have HA := fun u => Aside0.mk (h.grown (HB u).out)
  have HS := Aside0.mk (boxW_res w (.slice (some ⟨g, 0, none⟩) n c) (.slice none 0 0))
  clear h
  by_cases g0 : i < 0
  · go_enter Try.func29, Try.ntmps29
    go_wp2
    exact bodyPost_ret (v := .tuple #[refV g n c, .int .i64 6]) (by simp [results, Try.results29, go_sem]) rfl ⟨6, T, g, c, rfl, Or.inl ⟨Or.inl g0, rfl, rfl⟩, (HA _).out, (HB _).out⟩
  · by_cases g1 : (n : Int) ≤ i
    · go_enter Try.func29, Try.ntmps29
      go_wp2
      exact bodyPost_ret (v := .tuple #[refV g n c, .int .i64 6]) (by simp [results, Try.results29, go_sem]) rfl ⟨6, T, g, c, rfl, Or.inl ⟨Or.inr g1, rfl, rfl⟩, (HA _).out, (HB _).out⟩
    · obtain ⟨I, rfl⟩ : ∃ I : Nat, (I : Int) = i := ⟨i.toNat, by omega⟩
      have g5 : ¬ n ≤ I := by omega
      have i0 : (0 : Int) ≤ (I : Int) := by omega
      have i1 : (I : Int) < (n : Int) := by omega
      have HI1 := Aside0.mk (show I + 1 ≤ n by omega)
      have hc := (HA (.slice none 0 0)).out.cell I (by omega)
      cases g2 : T I with
      | true =>
        rw [g2] at hc
        have HG := Aside0.mk g2
        clear g2
        go_enter Try.func29, Try.ntmps29
        go_wp2
        exact bodyPost_ret (v := .tuple #[refV g n c, .int .i64 8]) (by simp [results, Try.results29, go_sem]) rfl ⟨8, T, g, c, rfl, Or.inr (Or.inl ⟨by omega, by omega, by rw [Int.toNat_natCast]; exact HG.out, rfl, rfl⟩), (HA _).out, (HB _).out⟩
      | false =>
        rw [g2] at hc
        have HG := Aside0.mk g2
        clear g2
        go_enter Try.func29, Try.ntmps29
        go_wp2_with (first | (go_at_call 34; (with_reducible refine (refWith_calls (HA (.slice none 0 0)).out h1 hn I 1 HI1.out true _ 1 rfl rfl).mono ?_); rintro e w2 ⟨g2, c2, rfl, hg2, hbl, hb⟩; have HBL := Aside0.mk hbl; have HB2 := Aside0.mk ((HB (.slice none 0 0)).out.trans (hb.mono (HB (.slice none 0 0)).out.size)); have HS2 := Aside0.mk ((hb.block _ (blk_lt HS.out)).trans HS.out); have HG2 := Aside0.mk hg2; have hc2 : w2.cell? ⟨w.heap.size + 1, 0, none⟩ = some (.slice none 0 0) := (blk_cell HS2.out 0).trans rfl; have hfr : w2.frozen? ⟨w.heap.size + 1, 0, none⟩ = false := (by simp [World.frozen?, HS2.out]); clear hbl hb hg2))
        have hres := res_cell HS2.out (.slice (some ⟨g2, 0, none⟩) n c2)
        exact bodyPost_ret (v := .tuple #[refV g2 n c2, .int .i64 0]) (by simp [results, Try.results29, go_sem, hres]) rfl ⟨0, _, g2, c2, rfl, Or.inr (Or.inr ⟨by omega, by omega, by rw [Int.toNat_natCast]; exact HG.out, rfl, rfl⟩), by rw [Int.toNat_natCast]; exact HBL.out.own (Own.setCell _ (w.heap.size + 1) _ _) (by have := HG2.out; simp at this; omega), HB2.out.setCell (by simp) _⟩
theorem refGive_calls {w : World} {g n c : Nat} {T : Nat → Bool} (h : BoolsAt w g n T) (h1 : 1 ≤ n) (hn : n ≤ 16384) (i k : Int) : Calls Try.prog 30 #[refV g n c, .int .i64 i, .int .i64 k] w (RefSays (GiveR T n i k) n w) := by
  have HB := fun u => Aside0.mk (boxW_below w (.slice (some ⟨g, 0, none⟩) n c) u)
  have HA := fun u => Aside0.mk (h.grown (HB u).out)
  have HS := Aside0.mk (boxW_res w (.slice (some ⟨g, 0, none⟩) n c) (.slice none 0 0))
  clear h
  by_cases g1 : k < 1
  · go_enter Try.func30, Try.ntmps30
    go_wp2
    exact bodyPost_ret (v := .tuple #[refV g n c, .int .i64 2]) (by simp [results, Try.results30, go_sem]) rfl ⟨2, T, g, c, rfl, Or.inl ⟨g1, rfl, rfl⟩, (HA _).out, (HB _).out⟩
  · by_cases g0 : i < 0
    · go_enter Try.func30, Try.ntmps30
      go_wp2
      exact bodyPost_ret (v := .tuple #[refV g n c, .int .i64 6]) (by simp [results, Try.results30, go_sem]) rfl ⟨6, T, g, c, rfl, Or.inr (Or.inl ⟨by omega, Or.inl g0, rfl, rfl⟩), (HA _).out, (HB _).out⟩
    · by_cases g2 : (n : Int) < k
      · go_enter Try.func30, Try.ntmps30
        go_wp2
        exact bodyPost_ret (v := .tuple #[refV g n c, .int .i64 6]) (by simp [results, Try.results30, go_sem]) rfl ⟨6, T, g, c, rfl, Or.inr (Or.inl ⟨by omega, Or.inr (Or.inl g2), rfl, rfl⟩), (HA _).out, (HB _).out⟩
      · by_cases g3 : (n : Int) - k < i
        · go_enter Try.func30, Try.ntmps30
          go_wp2
          exact bodyPost_ret (v := .tuple #[refV g n c, .int .i64 6]) (by simp [results, Try.results30, go_sem]) rfl ⟨6, T, g, c, rfl, Or.inr (Or.inl ⟨by omega, Or.inr (Or.inr g3), rfl, rfl⟩), (HA _).out, (HB _).out⟩
        · obtain ⟨I, rfl⟩ : ∃ I : Nat, (I : Int) = i := ⟨i.toNat, by omega⟩
          obtain ⟨K, rfl⟩ : ∃ K : Nat, (K : Int) = k := ⟨k.toNat, by omega⟩
          have HI := Aside0.mk (show I + K ≤ n by omega)
          have h4 : (I : Int) + (K : Int) ≤ 16384 := by omega
          have h5 : (n : Int) ≤ 16384 := by omega
          have h6 : ¬ n < K := by omega
          have h7 : ¬ (I : Int) < 0 := by omega
          have h8 : ¬ (K : Int) < 1 := by omega
          have h9 : ¬ (n : Int) - (K : Int) < (I : Int) := by omega
          clear g0 g1 g2 g3
          go_enter Try.func30, Try.ntmps30
          go_wp2
          go_loopw [8] (fun vp wr => ∃ j : Nat, j ≤ K ∧ vp = .int .i64 (j : Int) ∧ Aside0 (∀ x, I ≤ x → x < I + j → T x = true) ∧ wr = boxW w (.slice (some ⟨g, 0, none⟩) n c) (.slice none 0 0)) (fun vp _ => K - (intOf vp).toNat)
          case atStart => exact ⟨0, Nat.zero_le _, rfl, ⟨fun x h1 h2 => absurd h2 (by omega)⟩, rfl⟩
          case round =>
            obtain ⟨j, hj, rfl, HR, rfl⟩ := hrel
            by_cases g5 : j < K
            · have g6 : (j : Int) < (K : Int) := by omega
              have g8 : (0 : Int) ≤ (I : Int) + (j : Int) := by omega
              have g9 : (I : Int) + (j : Int) < (n : Int) := by have := HI.out; omega
              have g10 : I + j < n := by have := HI.out; omega
              have hc := (HA (.slice none 0 0)).out.cell (I + j) g10
              cases g7 : T (I + j) with
              | true =>
                rw [g7] at hc
                have HN := Aside0.mk (show ∀ x, I ≤ x → x < I + (j + 1) → T x = true by
                  intro x h1 h2
                  by_cases e : x = I + j
                  · rw [e, g7]
                  · exact HR.out x h1 (by omega))
                clear g7
                go_wp2
                exact ⟨⟨j + 1, by omega, by go_num, HN, trivial⟩, by simp [intOf]; omega⟩
              | false =>
                rw [g7] at hc
                have HG := Aside0.mk g7
                clear g7
                go_wp2
                exact bodyPost_ret (v := .tuple #[refV g n c, .int .i64 7]) (by simp [results, Try.results30, go_sem]) rfl ⟨7, T, g, c, rfl, Or.inr (Or.inr (Or.inl ⟨by omega, by omega, by have := HI.out; omega, ⟨I + j, by omega, by omega, HG.out⟩, rfl, rfl⟩)), (HA _).out, (HB _).out⟩
            · have g6 : ¬ (j : Int) < (K : Int) := by omega
              have HN := Aside0.mk (show ∀ x : Nat, (I : Int) ≤ x → (x : Int) < (I : Int) + (K : Int) → T x = true from fun x h1 h2 => HR.out x (by omega) (by omega))
              go_wp2_with (first | (go_at_call 34; (with_reducible refine (refWith_calls (HA (.slice none 0 0)).out h1 hn I K HI.out false _ _ rfl rfl).mono ?_); rintro e w2 ⟨g2, c2, rfl, hg2, hbl, hb⟩; have HBL := Aside0.mk hbl; have HB2 := Aside0.mk ((HB (.slice none 0 0)).out.trans (hb.mono (HB (.slice none 0 0)).out.size)); have HS2 := Aside0.mk ((hb.block _ (blk_lt HS.out)).trans HS.out); have HG2 := Aside0.mk hg2; have hc2 : w2.cell? ⟨w.heap.size + 1, 0, none⟩ = some (.slice none 0 0) := (blk_cell HS2.out 0).trans rfl; have hfr : w2.frozen? ⟨w.heap.size + 1, 0, none⟩ = false := (by simp [World.frozen?, HS2.out]); clear hbl hb hg2))
              have hres := res_cell HS2.out (.slice (some ⟨g2, 0, none⟩) n c2)
              exact bodyPost_ret (v := .tuple #[refV g2 n c2, .int .i64 0]) (by simp [results, Try.results30, go_sem, hres]) rfl ⟨0, _, g2, c2, rfl, Or.inr (Or.inr (Or.inr ⟨by omega, by omega, by have := HI.out; omega, HN.out, rfl, rfl⟩)), by rw [Int.toNat_natCast, Int.toNat_natCast]; exact HBL.out.own (Own.setCell _ (w.heap.size + 1) _ _) (by have := HG2.out; simp at this; omega), HB2.out.setCell (by simp) _⟩
end Go.Proofs.Ytagplafbdmjagaa.A
