/- AllocFirst's walk. -/
import Derived.Test.YtagplafbdmjagaaV20
namespace Go.Proofs.Ytagplafbdmjagaa.A
open Go.RowKit Go.Proofs.YtagplafbdmjagaaW.PrintWords Go.Proofs.YtagplafbdmjagaaW.PrintLast Go.Proofs.YtagplafbdmjagaaW.PrintMore
set_option linter.unusedVariables false
set_option maxHeartbeats 4000000
set_option maxRecDepth 100000
theorem allocFirst_walk (w : World) (A : Option Addr) (len cap : Nat) (hl : len < 9223372036854775808) (h : ActsIn w w.heap.size A len) (k : Int) (hk : k < 9223372036854775808) : Calls Try.prog 3 #[.slice A len cap, .int .i64 k] w fun e w' => e = .returned (.bool true) ∧ Below w.heap.size w w' := by
  have H := Aside0.mk h
  clear h
  by_cases k1 : k < 1
  · go_enter Try.func3, Try.ntmps3
    go_wp2_with (first | (go_at_call 8; (with_reducible refine (begun_calls _ A len cap hl H.out).mono ?_); rintro e w1 ⟨p, q, T, rfl, hp, hq, ha, hb⟩; have HB1 := Aside0.mk hb; clear hp hq ha hb) | (go_at_call 9; (with_reducible refine (lives_calls _).mono ?_); rintro e w9 ⟨rfl, hb9⟩; have HB9 := Aside0.mk (HB1.out.trans (hb9.mono HB1.out.size)); clear hb9))
    go_ret
    exact ⟨rfl, HB9.out⟩
  · obtain ⟨K, rfl⟩ : ∃ K : Nat, (K : Int) = k := ⟨k.toNat, by omega⟩
    have HK := Aside0.mk (show 1 ≤ K by omega)
    have HK2 := Aside0.mk (show K < 9223372036854775808 by omega)
    have k2 : (1 : Int) ≤ (K : Int) := by omega
    clear k1 hk
    go_enter Try.func3, Try.ntmps3
    go_wp2_with (first | (go_at_call 8; (with_reducible refine (begun_calls _ A len cap hl H.out).mono ?_); rintro e w1 ⟨p, q, T, rfl, hp, hq, ha, hb⟩; have HP := Aside0.mk hp; have HQ := Aside0.mk hq; have HA1 := Aside0.mk ha; have HB1 := Aside0.mk hb; clear hp hq ha hb) | (go_at_call 10; (with_reducible refine (Rows_calls HA1.out).mono ?_); rintro e w2 ⟨v2, rfl, ho, hb⟩; obtain ⟨A2, c2, hin⟩ := ho.inside; have HI := Aside0.mk hin; obtain rfl := hin.val; have HL := Aside0.mk (rows_short T); have HA2 := Aside0.mk (HA1.out.grown hb); have HB2 := Aside0.mk (HB1.out.trans (hb.mono HB1.out.size)); clear ho hb hin))
    generalize hL : rowsOf T 100 = L at *
    have HW := Aside0.mk (show (∃ x, RowAt T 100 x K ∧ (∀ y, y < x → ¬ RowAt T 100 y K) ∧ wantOf K L = (x : Int)) ∨ ((∀ y, ¬ RowAt T 100 y K) ∧ wantOf K L = -1) by
      rw [← hL]
      rcases rows_want T 100 K 100 0 HK.out (by decide) with ⟨x, _, h2, h3, h4⟩ | ⟨h1, h2⟩
      · exact Or.inl ⟨x, h2, fun y => h3 y (by omega), h4⟩
      · exact Or.inr ⟨fun y => h1 y (by omega), h2⟩)
    have HS := Aside0.mk (show sumOf L + cnt T 100 = 100 by rw [← hL]; exact rows_sum T 100 100 0 (by decide) (by decide))
    have HM := Aside0.mk (show ∀ r ∈ L, r.1 < 100 ∧ r.2 ≤ 100 by rw [← hL]; exact rows_cell)
    clear hL
    generalize hn : L.length = nL at *
    have HN := Aside0.mk hn
    have hl16 : nL ≤ 16400 := HL.out
    clear hn HL
    go_loopw [7, 8, 9] (fun v7 v8 v9 wr => ∃ (j : Nat) (z wt : Int) (fr : Nat), v7 = .int .i64 wt ∧ v8 = .int .i64 (fr : Int) ∧ v9 = .int .i64 z ∧ Aside0 (z + 1 = (j : Int)) ∧ j ≤ nL ∧ -1 ≤ z ∧ z < 16400 ∧ fr ≤ 100 ∧ Aside0 (wt = wantOf K (L.drop j) ∧ fr = sumOf (L.drop j)) ∧ wr = w2) (fun _ _ v9 _ => (intOf v9 + 1).toNat)
    case atStart => exact ⟨nL, (nL : Int) - 1, -1, 0, rfl, rfl, by rw [show wrap64 ((nL : Int) - 1) = (nL : Int) - 1 by unfold wrap64; omega], ⟨by omega⟩, by omega, by omega, by omega, by omega, ⟨by rw [← HN.out, List.drop_length]; exact ⟨rfl, rfl⟩⟩, rfl⟩
    case round =>
      obtain ⟨j, z, wt, fr, rfl, rfl, rfl, hz, hj, hz1, hz2, hfr, HQ2, rfl⟩ := hrel
      by_cases g1 : 0 ≤ z
      · obtain ⟨i, rfl⟩ : ∃ i : Nat, (i : Int) = z := ⟨z.toNat, by omega⟩
        have hji := Aside0.mk (show j = i + 1 by have := hz.out; omega)
        have hiL := Aside0.mk (show i < L.length by rw [HN.out]; have := hji.out; omega)
        have hin : i < nL := by have := hji.out; omega
        have i1 : (i : Int) < (nL : Int) := by omega
        obtain ⟨g, hg, c0, c1⟩ := HI.out.cell i hiL.out
        obtain rfl := hg
        have HX := Aside0.mk (show wantOf K (L.drop i) = (if K ≤ (L.getD i (0, 0)).2 then ((L.getD i (0, 0)).1 : Int) else wt) ∧ sumOf (L.drop i) = (L.getD i (0, 0)).2 + fr by
          rw [drop_at L i hiL.out, wantOf, sumOf, ← hji.out, HQ2.out.1, HQ2.out.2]
          exact ⟨rfl, rfl⟩)
        have hmem := HM.out (L.getD i (0, 0)) (by rw [List.getD_eq_getElem?_getD, List.getElem?_eq_getElem hiL.out]; exact List.getElem_mem _)
        have hsum : (L.getD i (0, 0)).2 + fr ≤ 100 := by rw [← HX.out.2]; have := sumOf_drop L i; have := HS.out; omega
        generalize L.getD i (0, 0) = r at *
        obtain ⟨a, m⟩ := r
        simp only at c0 c1 hmem hsum
        obtain ⟨hm1, hm2⟩ := hmem
        by_cases g2 : K ≤ m
        · have HY := Aside0.mk (show wantOf K (L.drop i) = (a : Int) by rw [HX.out.1]; exact if_pos g2)
          have HZ := Aside0.mk HX.out.2
          clear HX
          have g3 : (K : Int) ≤ (m : Int) := by omega
          go_wp2
          exact ⟨⟨i, _, _, fr + m, rfl, by go_num, rfl, ⟨by omega⟩, by omega, by omega, by omega, by omega, ⟨HY.out.symm, by rw [HZ.out]; exact Nat.add_comm _ _⟩, trivial⟩, by simp [intOf] <;> omega⟩
        · have HY := Aside0.mk (show wantOf K (L.drop i) = wt by rw [HX.out.1]; exact if_neg g2)
          have HZ := Aside0.mk HX.out.2
          clear HX
          have g3 : ¬ (K : Int) ≤ (m : Int) := by omega
          go_wp2
          exact ⟨⟨i, _, _, fr + m, rfl, by go_num, rfl, ⟨by omega⟩, by omega, by omega, by omega, by omega, ⟨HY.out.symm, by rw [HZ.out]; exact Nat.add_comm _ _⟩, trivial⟩, by simp [intOf] <;> omega⟩
      · have hj0 : j = 0 := by have := hz.out; omega
        subst hj0
        have HF := Aside0.mk (show fr + cnt T 100 = 100 by rw [HQ2.out.2]; exact HS.out)
        have HV : wt = wantOf K L := HQ2.out.1
        rcases HW.out with ⟨x, x1, x2, x3⟩ | ⟨x1, x3⟩
        · rw [x3] at HV
          subst HV
          have X1 := Aside0.mk x1
          have X2 := Aside0.mk x2
          clear x1 x2 x3 HW HQ2
          go_wp2_with (first | (go_at_call 11; (with_reducible refine (Free_calls HA2.out fr HF.out).mono ?_); rintro e w4 ⟨rfl, ⟨m4, rfl⟩⟩) | (go_at_call 12; (with_reducible refine (Take_some (HA2.out.drawn (by repeat (first | exact Drawn0.refl _ | apply Drawn0.step))) K HK.out HK2.out x X1.out X2.out _ _ rfl rfl).mono ?_); rintro e w5 ⟨rfl, ha, ho⟩; have HB5 := Aside0.mk ((pw_below_drewN HB2.out _).trans (ho.below HQ.out (pw_below_drewN HB2.out _).size)); clear ha ho) | (go_at_call 9; (with_reducible refine (lives_calls _).mono ?_); rintro e w9 ⟨rfl, hb9⟩; have HB9 := Aside0.mk (HB5.out.trans (hb9.mono HB5.out.size)); clear hb9))
          go_ret
          exact ⟨rfl, HB9.out⟩
        · rw [x3] at HV
          subst HV
          have X1 := Aside0.mk x1
          clear x1 x3 HW HQ2
          go_wp2_with (first | (go_at_call 11; (with_reducible refine (Free_calls HA2.out fr HF.out).mono ?_); rintro e w4 ⟨rfl, ⟨m4, rfl⟩⟩) | (go_at_call 12; (with_reducible refine (Take_none (HA2.out.drawn (by repeat (first | exact Drawn0.refl _ | apply Drawn0.step))) K HK.out HK2.out X1.out _ rfl).mono ?_); rintro e w5 ⟨rfl, ha, ho⟩; have HB5 := Aside0.mk ((pw_below_drewN HB2.out _).trans (ho.below HQ.out (pw_below_drewN HB2.out _).size)); clear ha ho) | (go_at_call 9; (with_reducible refine (lives_calls _).mono ?_); rintro e w9 ⟨rfl, hb9⟩; have HB9 := Aside0.mk (HB5.out.trans (hb9.mono HB5.out.size)); clear hb9))
          go_ret
          exact ⟨rfl, HB9.out⟩
end Go.Proofs.Ytagplafbdmjagaa.A
