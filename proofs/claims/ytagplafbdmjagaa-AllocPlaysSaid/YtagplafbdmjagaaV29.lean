/- AllocPlays' walk. -/
import Derived.Test.YtagplafbdmjagaaV27
namespace Go.Proofs.Ytagplafbdmjagaa.A
open Go.RowKit Go.Proofs.YtagplafbdmjagaaW.PrintWords Go.Proofs.YtagplafbdmjagaaW.PrintLast Go.Proofs.YtagplafbdmjagaaW.PrintMore
set_option linter.unusedVariables false
set_option maxHeartbeats 4000000
set_option maxRecDepth 100000
theorem allocPlays_walk (w : World) (n : Int) (A : Option Addr) (len cap : Nat) (hl : len < 9223372036854775808) (h : ActsIn w w.heap.size A len) (i : Int) : Calls Try.prog 5 #[.int .i64 n, .slice A len cap, .int .i64 i] w fun e w' => e = .returned (.bool true) ∧ Below w.heap.size w w' := by
  have H := Aside0.mk h
  clear h
  by_cases hn : n < 1 ∨ 16384 < n
  · have HN := Aside0.mk hn
    clear hn
    by_cases h3 : 300 < len
    · go_enter Try.func5, Try.ntmps5
      go_wp2_with (first | (go_at_call 16; (with_reducible refine (New_bad n HN.out _).mono ?_); rintro e w1 ⟨rfl, rfl⟩) | (go_at_call 17; (with_reducible refine (refNew_bad n HN.out _).mono ?_); rintro e w2 ⟨rfl, hb⟩; have HB2 := Aside0.mk hb; clear hb) | (go_at_call 9; (with_reducible refine (lives_calls _).mono ?_); rintro e w9 ⟨rfl, hb9⟩; have HB9 := Aside0.mk hb9; clear hb9))
      go_ret
      exact ⟨rfl, (HB2.out.alloc HB2.out.size _).trans (HB9.out.mono (by have := HB2.out.size; simp; omega))⟩
    · go_enter Try.func5, Try.ntmps5
      go_wp2_with (first | (go_at_call 16; (with_reducible refine (New_bad n HN.out _).mono ?_); rintro e w1 ⟨rfl, rfl⟩) | (go_at_call 17; (with_reducible refine (refNew_bad n HN.out _).mono ?_); rintro e w2 ⟨rfl, hb⟩; have HB2 := Aside0.mk hb; clear hb))
      go_loopw [7, 11] (fun v7 v11 wr => v7 = .pointer none ∧ v11 = .int .i64 0 ∧ wr = w2.alloc (.cells #[.slice none 0 0] 44)) (fun _ _ _ => 0)
      case atStart => exact ⟨rfl, rfl, rfl⟩
      case round =>
        obtain ⟨rfl, rfl, rfl⟩ := hrel
        by_cases h0 : 0 < len
        · go_wp2_with (first | (go_at_call 9; (with_reducible refine (lives_calls _).mono ?_); rintro e w9 ⟨rfl, hb9⟩; have HB9 := Aside0.mk hb9; clear hb9))
          go_ret
          exact ⟨rfl, (HB2.out.alloc HB2.out.size _).trans (HB9.out.mono (by have := HB2.out.size; simp; omega))⟩
        · go_wp2_with (first | (go_at_call 9; (with_reducible refine (lives_calls _).mono ?_); rintro e w9 ⟨rfl, hb9⟩; have HB9 := Aside0.mk hb9; clear hb9))
          go_ret
          exact ⟨rfl, (HB2.out.alloc HB2.out.size _).trans (HB9.out.mono (by have := HB2.out.size; simp; omega))⟩
  · obtain ⟨N, rfl⟩ : ∃ N : Nat, (N : Int) = n := ⟨n.toNat, by omega⟩
    have HN := Aside0.mk (show 1 ≤ N ∧ N ≤ 16384 by omega)
    have hn1 : (1 : Int) ≤ (N : Int) := by omega
    have hn2 : (N : Int) ≤ 16384 := by omega
    clear hn
    by_cases h3 : 300 < len
    · go_enter Try.func5, Try.ntmps5
      go_wp2_with (first | (go_at_call 16; (with_reducible refine (New_calls N HN.out.1 HN.out.2 _ rfl _).mono ?_); rintro e w1 ⟨p, q, rfl, hp, hq, ha, hb⟩; have HB1 := Aside0.mk hb; clear hp hq ha hb) | (go_at_call 17; (with_reducible refine (refNew_calls N HN.out.1 HN.out.2 _ rfl _).mono ?_); rintro e w2 ⟨g, rfl, hg, hbl, hb⟩; have HB2 := Aside0.mk (HB1.out.trans (hb.mono HB1.out.size)); clear hg hbl hb) | (go_at_call 9; (with_reducible refine (lives_calls _).mono ?_); rintro e w9 ⟨rfl, hb9⟩; have HB9 := Aside0.mk hb9; clear hb9))
      go_ret
      exact ⟨rfl, (HB2.out.alloc HB2.out.size _).trans (HB9.out.mono (by have := HB2.out.size; simp; omega))⟩
    · go_enter Try.func5, Try.ntmps5
      go_wp2_with (first | (go_at_call 16; (with_reducible refine (New_calls N HN.out.1 HN.out.2 _ rfl _).mono ?_); rintro e w1 ⟨p, q, rfl, hp, hq, ha, hb⟩; have HQ := Aside0.mk hq; have HA1 := Aside0.mk ha; have HB1 := Aside0.mk hb; clear hp hq ha hb) | (go_at_call 17; (with_reducible refine (refNew_calls N HN.out.1 HN.out.2 _ rfl _).mono ?_); rintro e w2 ⟨g, rfl, hg, hbl, hb⟩; have HA2 := Aside0.mk (HA1.out.grown hb); have HG2 := Aside0.mk hbl; have HB2 := Aside0.mk (HB1.out.trans (hb.mono HB1.out.size)); clear hg hbl hb))
      have HS2 := Aside0.mk (show (w2.alloc (.cells #[.slice (some ⟨g, 0, none⟩) N N] 44)).heap[w2.heap.size]? = some (.cells #[.slice (some ⟨g, 0, none⟩) N N] 44 (0, 0)) from blk_new w2 _)
      have HZ := Aside0.mk HB2.out.size
      go_loopw [7, 11] (fun v7 v11 wr => ∃ (k p q : Nat) (T : Nat → Bool) (g c : Nat), v7 = .pointer (some ⟨p, 0, none⟩) ∧ v11 = .int .i64 k ∧ k ≤ len ∧ Aside0 (IsAlloc wr p q N T) ∧ Aside0 (BoolsAt wr g N T) ∧ Aside0 (wr.heap[w2.heap.size]? = some (.cells #[.slice (some ⟨g, 0, none⟩) N c] 44 (0, 0))) ∧ Aside0 (w.heap.size ≤ q) ∧ Aside0 (Below w.heap.size w wr)) (fun _ v11 _ => len - (intOf v11).toNat)
      case atStart => exact ⟨0, p, q, _, g, N, rfl, rfl, by omega, ⟨HA2.out.grown ((Below.refl _ _).alloc (Nat.le_refl _) _)⟩, ⟨HG2.out.grown ((Below.refl _ _).alloc (Nat.le_refl _) _)⟩, HS2, HQ, ⟨HB2.out.alloc HB2.out.size _⟩⟩
      case round =>
        clear HQ HA1 HB1 HA2 HG2 HB2 HS2
        obtain ⟨k, p, q, T, g, c, rfl, rfl, hk, HA, HG, HS, HQ, HB⟩ := hrel
        by_cases g1 : k < len
        · obtain ⟨ga, o, rfl, hg, x, y, z, hy, hz, cx, cy, cz⟩ := H.out.cell k g1
          have dx := (HB.out.cell (p := ⟨ga, o + k * 3, none⟩) hg).trans cx
          have dy := (HB.out.cell (p := ⟨ga, o + k * 3 + 1, none⟩) hg).trans cy
          have dz := (HB.out.cell (p := ⟨ga, o + k * 3 + 2, none⟩) hg).trans cz
          have CX := Aside0.mk cx
          have CY := Aside0.mk cy
          have CZ := Aside0.mk cz
          have hcs : wr.cell? ⟨w2.heap.size, 0, none⟩ = some (.slice (some ⟨g, 0, none⟩) N c) := (blk_cell HS.out 0).trans rfl
          have HY := Aside0.mk hy
          have HZ2 := Aside0.mk hz
          have HGL := Aside0.mk hg
          have i0 : (0 : Int) ≤ (k : Int) := by omega
          have i1 : (k : Int) < (len : Int) := by omega
          have i2 : (k : Int) ≤ 300 := by omega
          have HD := Aside0.mk (show Below wr.heap.size wr (wr.alloc (.cells #[.slice none 0 0] 44)).drew from below_drew1 ((Below.refl _ _).alloc (Nat.le_refl _) _))
          have HAd := Aside0.mk (HA.out.grown HD.out)
          have HGd := Aside0.mk (HG.out.grown HD.out)
          have HBd := Aside0.mk (HB.out.trans (HD.out.mono HB.out.size))
          have HSd := Aside0.mk ((HD.out.block _ (blk_lt HS.out)).trans HS.out)
          have HYd := Aside0.mk (show (wr.alloc (.cells #[.slice none 0 0] 44)).drew.heap[wr.heap.size]? = some (.cells #[.slice none 0 0] 44 (0, 0)) from blk_new wr _)
          have HAe := Aside0.mk (show IsAlloc wr.drew p q N T from HA.out.drawn (by repeat (first | exact Drawn0.refl _ | apply Drawn0.step)))
          have HGe := Aside0.mk (show BoolsAt wr.drew g N T from HG.out.drawn (by repeat (first | exact Drawn0.refl _ | apply Drawn0.step)))
          have HBe := Aside0.mk (show Below w.heap.size w wr.drew from below_drew1 HB.out)
          have HSe := Aside0.mk (show wr.drew.heap[w2.heap.size]? = some (.cells #[.slice (some ⟨g, 0, none⟩) N c] 44 (0, 0)) from HS.out)
          have hw1 := blk_lt HS.out
          have hw2 := HB.out.size
          have n1 : ¬ w2.heap.size = wr.heap.size := by omega
          have n2 : ¬ wr.heap.size = w2.heap.size := by omega
          have n3 : ¬ ga = wr.heap.size := by omega
          have n4 : ¬ wr.heap.size = ga := by omega
          clear hw1 hw2
          clear cx cy cz hy hz hg
          go_wp2
          go_region_held3 (fun w' => w'.cell? ⟨ga, o + k * 3, none⟩ = some (.int .i64 x) ∧ w'.cell? ⟨ga, o + k * 3 + 1, none⟩ = some (.int .i64 y) ∧ w'.cell? ⟨ga, o + k * 3 + 2, none⟩ = some (.int .i64 z) ∧ w'.cell? ⟨w2.heap.size, 0, none⟩ = some (.slice (some ⟨g, 0, none⟩) N c)) (go_keep) (first | (go_at_call 18; (with_reducible refine (step_calls HAd.out HGd.out x y z HY.out HZ2.out).mono ?_); rintro e w3 ⟨p', q', T', g', c', rfl, ha, hbl, ho, hq⟩; have HA3 := Aside0.mk ha; have HG3 := Aside0.mk hbl; have HS3 := Aside0.mk ((ho.block _ (blk_lt HSd.out) ((blk_ne3 HAd.out).2.1 HSd.out)).trans HSd.out); have HQ3 := Aside0.mk (show w.heap.size ≤ q' from hq.elim (fun e => by rw [e]; exact HQ.out) (fun e => Nat.le_trans HBd.out.size e)); have HB3 := Aside0.mk (HBd.out.trans (ho.below HQ.out HBd.out.size)); have HY3 := Aside0.mk ((ho.block _ (blk_lt HYd.out) ((blk_ne3 HAd.out).2.1 HYd.out)).trans HYd.out); have ecy : w3.cell? ⟨wr.heap.size, 0, none⟩ = some (.slice none 0 0) := (blk_cell HY3.out 0).trans rfl; have efy : w3.frozen? ⟨wr.heap.size, 0, none⟩ = false := (by simp [World.frozen?, HY3.out]); have ex := (HB3.out.cell (p := ⟨ga, o + k * 3, none⟩) HGL.out).trans CX.out; have ey := (HB3.out.cell (p := ⟨ga, o + k * 3 + 1, none⟩) HGL.out).trans CY.out; have ez := (HB3.out.cell (p := ⟨ga, o + k * 3 + 2, none⟩) HGL.out).trans CZ.out; have ecs : w3.cell? ⟨w2.heap.size, 0, none⟩ = some (.slice (some ⟨g, 0, none⟩) N c) := (blk_cell HS3.out 0).trans rfl; clear ha hbl ho hq) | (go_at_call 18; (with_reducible refine (step_calls HAe.out HGe.out x y z HY.out HZ2.out).mono ?_); rintro e w3 ⟨p', q', T', g', c', rfl, ha, hbl, ho, hq⟩; have HA3 := Aside0.mk ha; have HG3 := Aside0.mk hbl; have HS3 := Aside0.mk ((ho.block _ (blk_lt HSe.out) ((blk_ne3 HAe.out).2.1 HSe.out)).trans HSe.out); have HQ3 := Aside0.mk (show w.heap.size ≤ q' from hq.elim (fun e => by rw [e]; exact HQ.out) (fun e => Nat.le_trans HBe.out.size e)); have HB3 := Aside0.mk (HBe.out.trans (ho.below HQ.out HBe.out.size)); have hw3 := blk_lt HS3.out; have hw4 := HB3.out.size; have m1 : ¬ w2.heap.size = w3.heap.size := (by omega); have m2 : ¬ w3.heap.size = w2.heap.size := (by omega); have m3 : ¬ ga = w3.heap.size := (by have := HGL.out; omega); have m4 : ¬ w3.heap.size = ga := (by have := HGL.out; omega); clear hw3 hw4; have ex := (HB3.out.cell (p := ⟨ga, o + k * 3, none⟩) HGL.out).trans CX.out; have ey := (HB3.out.cell (p := ⟨ga, o + k * 3 + 1, none⟩) HGL.out).trans CY.out; have ez := (HB3.out.cell (p := ⟨ga, o + k * 3 + 2, none⟩) HGL.out).trans CZ.out; have ecs : w3.cell? ⟨w2.heap.size, 0, none⟩ = some (.slice (some ⟨g, 0, none⟩) N c) := (blk_cell HS3.out 0).trans rfl; clear ha hbl ho hq))
          · have HA4 := Aside0.mk (HA3.out.grown ((Below.refl _ _).alloc (Nat.le_refl _) (.cells #[.slice (some ⟨g', 0, none⟩) N c'] 44)))
            have HG4 := Aside0.mk (HG3.out.grown ((Below.refl _ _).alloc (Nat.le_refl _) (.cells #[.slice (some ⟨g', 0, none⟩) N c'] 44)))
            have HS4 := Aside0.mk ((Below.heap_alloc w3 (.cells #[.slice (some ⟨g', 0, none⟩) N c'] 44) _ (blk_lt HS3.out)).trans HS3.out)
            have HY4 := Aside0.mk (blk_new w3 (.cells #[.slice (some ⟨g', 0, none⟩) N c'] 44))
            have HB4 := Aside0.mk (HB3.out.alloc HB3.out.size (.cells #[.slice (some ⟨g', 0, none⟩) N c'] 44))
            have N1 := Aside0.mk m1
            clear HA HG HS HQ HB dx dy dz CX CY CZ hcs HY HZ2 HGL i0 i2 HAd HGd HBd HSd HD HYd HAe HGe HBe HSe n1 n2 n3 n4 HA3 HG3 HS3 HB3 ex ey ez ecs m1 m2 m3 m4
            generalize w3.alloc (.cells #[.slice (some ⟨g', 0, none⟩) N c'] 44) = W at *
            generalize w3.heap.size = yb at *
            obtain ⟨F, hF⟩ : ∃ F, F + cnt T' N = N := ⟨N - cnt T' N, by have := cnt_le T' N; omega⟩
            have EF := Aside0.mk hF
            have HL := Aside0.mk (Nat.le_trans (rows_len T' N N 0) (Nat.le_trans HN.out.2 (by decide : 16384 ≤ 16400)))
            have HL2 : Aside0 ((rowsOf T' N).length ≤ 16400) := HL
            have hcy : W.cell? ⟨yb, 0, none⟩ = some (.slice (some ⟨g', 0, none⟩) N c') := (blk_cell HY4.out 0).trans rfl
            have HYd := Aside0.mk (show W.drew.heap[yb]? = some (.cells #[.slice (some ⟨g', 0, none⟩) N c'] 44 (0, 0)) from HY4.out)
            have HAd := Aside0.mk (show IsAlloc W.drew p' q' N T' from HA4.out.drawn ⟨⟨1, rfl⟩⟩)
            have HGd := Aside0.mk (show BoolsAt W.drew g' N T' from HG4.out.drawn ⟨⟨1, rfl⟩⟩)
            have HSd := Aside0.mk (show W.drew.heap[w2.heap.size]? = some (.cells #[.slice (some ⟨g, 0, none⟩) N c] 44 (0, 0)) from HS4.out)
            have HBd := Aside0.mk (show Below w.heap.size w W.drew from below_drew1 HB4.out)
            clear hF HL
            go_wp2
            go_region_held3 (fun w' => w'.cell? ⟨yb, 0, none⟩ = some (.slice (some ⟨g', 0, none⟩) N c')) (go_keep) (first | (go_at_call 11; (with_reducible refine (Free_calls HAd.out F EF.out).mono ?_); rintro e w5 ⟨rfl, ⟨m5, rfl⟩⟩; have HA5 := Aside0.mk (show IsAlloc (W.drewN (1 + m5)) p' q' N T' from HA4.out.drawn ⟨⟨1 + m5, rfl⟩⟩); have HG5 := Aside0.mk (show BoolsAt (W.drewN (1 + m5)) g' N T' from HG4.out.drawn ⟨⟨1 + m5, rfl⟩⟩); have HY5 := Aside0.mk (show (W.drewN (1 + m5)).heap[yb]? = _ from HYd.out); have HS5 := Aside0.mk (show (W.drewN (1 + m5)).heap[w2.heap.size]? = _ from HSd.out); have HB5 := Aside0.mk (pw_below_drewN HB4.out (1 + m5))) | (go_at_call 19; (with_reducible refine (refFree_calls HG5.out HN.out.2 F EF.out).mono ?_); rintro e w6 ⟨rfl, hb⟩; have HA6 := Aside0.mk (HA5.out.grown hb); have HG6 := Aside0.mk (HG5.out.grown hb); have HY6 := Aside0.mk ((hb.block _ (blk_lt HY5.out)).trans HY5.out); have HS6 := Aside0.mk ((hb.block _ (blk_lt HS5.out)).trans HS5.out); have HB6 := Aside0.mk (HB5.out.trans (hb.mono HB5.out.size)); have hcy6 : w6.cell? ⟨yb, 0, none⟩ = some (.slice (some ⟨g', 0, none⟩) N c') := (blk_cell HY6.out 0).trans rfl; clear hb) | (go_at_call 10; (with_reducible refine (Rows_calls HA6.out).mono ?_); rintro e w7 ⟨v7, rfl, ho, hb⟩; have HO7 := Aside0.mk ho; have HA7 := Aside0.mk (HA6.out.grown hb); have HG7 := Aside0.mk (HG6.out.grown hb); have HY7 := Aside0.mk ((hb.block _ (blk_lt HY6.out)).trans HY6.out); have HS7 := Aside0.mk ((hb.block _ (blk_lt HS6.out)).trans HS6.out); have HB7 := Aside0.mk (HB6.out.trans (hb.mono HB6.out.size)); have hcy7 : w7.cell? ⟨yb, 0, none⟩ = some (.slice (some ⟨g', 0, none⟩) N c') := (blk_cell HY7.out 0).trans rfl; clear hb ho) | (go_at_call 20; (with_reducible refine (refRows_calls HG7.out HN.out.2).mono ?_); rintro e w8 ⟨v8, rfl, ho, hb⟩; have HO8 := Aside0.mk ho; have HO78 := Aside0.mk (HO7.out.grown hb); have HA8 := Aside0.mk (HA7.out.grown hb); have HG8 := Aside0.mk (HG7.out.grown hb); have HY8 := Aside0.mk ((hb.block _ (blk_lt HY7.out)).trans HY7.out); have HS8 := Aside0.mk ((hb.block _ (blk_lt HS7.out)).trans HS7.out); have HB8 := Aside0.mk (HB7.out.trans (hb.mono HB7.out.size)); have hcy8 : w8.cell? ⟨yb, 0, none⟩ = some (.slice (some ⟨g', 0, none⟩) N c') := (blk_cell HY8.out 0).trans rfl; obtain ⟨A78, c78, hin78⟩ := HO78.out.inside; have HI78 := Aside0.mk hin78; obtain ⟨A8, c8, hin8⟩ := HO8.out.inside; have HI8 := Aside0.mk hin8; clear hb ho hin78 hin8) | (go_at_call 13; (with_reducible refine (same_true HI78.out HI8.out HL2.out rfl).mono ?_); rintro e w9 ⟨rfl, ⟨m9, rfl⟩⟩))
            go_wp2
            have hcs8 : w8.cell? ⟨w2.heap.size, 0, none⟩ = some (.slice (some ⟨g, 0, none⟩) N c) := (blk_cell HS8.out 0).trans rfl
            have hfs8 : w8.frozen? ⟨w2.heap.size, 0, none⟩ = false := by simp [World.frozen?, HS8.out]
            have N2 := N1.out
            have N3 : ¬ yb = w2.heap.size := fun e => N2 e.symm
            go_region_held3 (fun w' => w'.cell? ⟨yb, 0, none⟩ = some (.slice (some ⟨g', 0, none⟩) N c')) (go_keep) (fail)
            go_wp2
            have HSf := Aside0.mk (show (w8.drewN (m9 + 1)).heap[w2.heap.size]? = some (.cells #[.slice (some ⟨g, 0, none⟩) N c] 44 (0, 0)) from HS8.out)
            exact ⟨⟨k + 1, p', q', T', g', c', rfl, by go_num, by omega, ⟨(HA8.out.drawn (w' := w8.drewN (m9 + 1)) ⟨⟨_, rfl⟩⟩).put44 HSf.out _⟩, ⟨(HG8.out.drawn (w' := w8.drewN (m9 + 1)) ⟨⟨_, rfl⟩⟩).put44 HSf.out _⟩, ⟨blk_setCell_self HSf.out _⟩, HQ3, ⟨(pw_below_drewN HB8.out (m9 + 1)).setCell (p := ⟨w2.heap.size, 0, none⟩) HZ.out _⟩⟩, by simp [intOf]; omega⟩
          · have HA4 := Aside0.mk (HA3.out.put44 HY3.out (.slice (some ⟨g', 0, none⟩) N c'))
            have HG4 := Aside0.mk (HG3.out.put44 HY3.out (.slice (some ⟨g', 0, none⟩) N c'))
            have HS4 := Aside0.mk ((Below.heap_setCell w3 ⟨wr.heap.size, 0, none⟩ (.slice (some ⟨g', 0, none⟩) N c') _ (by simpa using n1)).trans HS3.out)
            have HY4 := Aside0.mk (show (w3.setCell ⟨wr.heap.size, 0, none⟩ (.slice (some ⟨g', 0, none⟩) N c')).heap[wr.heap.size]? = some (.cells #[.slice (some ⟨g', 0, none⟩) N c'] 44 (0, 0)) from blk_setCell_self HY3.out _)
            have HB4 := Aside0.mk (HB3.out.setCell (p := ⟨wr.heap.size, 0, none⟩) HB.out.size (.slice (some ⟨g', 0, none⟩) N c'))
            have N1 := Aside0.mk n1
            clear HA HG HS HQ HB dx dy dz CX CY CZ hcs HY HZ2 HGL i0 i2 HAd HGd HBd HSd HD HYd HAe HGe HBe HSe n1 n2 n3 n4 HA3 HG3 HS3 HB3 ex ey ez ecs ecy efy HY3
            generalize w3.setCell ⟨wr.heap.size, 0, none⟩ (.slice (some ⟨g', 0, none⟩) N c') = W at *
            generalize wr.heap.size = yb at *
            obtain ⟨F, hF⟩ : ∃ F, F + cnt T' N = N := ⟨N - cnt T' N, by have := cnt_le T' N; omega⟩
            have EF := Aside0.mk hF
            have HL := Aside0.mk (Nat.le_trans (rows_len T' N N 0) (Nat.le_trans HN.out.2 (by decide : 16384 ≤ 16400)))
            have HL2 : Aside0 ((rowsOf T' N).length ≤ 16400) := HL
            have hcy : W.cell? ⟨yb, 0, none⟩ = some (.slice (some ⟨g', 0, none⟩) N c') := (blk_cell HY4.out 0).trans rfl
            have HYd := Aside0.mk (show W.drew.heap[yb]? = some (.cells #[.slice (some ⟨g', 0, none⟩) N c'] 44 (0, 0)) from HY4.out)
            have HAd := Aside0.mk (show IsAlloc W.drew p' q' N T' from HA4.out.drawn ⟨⟨1, rfl⟩⟩)
            have HGd := Aside0.mk (show BoolsAt W.drew g' N T' from HG4.out.drawn ⟨⟨1, rfl⟩⟩)
            have HSd := Aside0.mk (show W.drew.heap[w2.heap.size]? = some (.cells #[.slice (some ⟨g, 0, none⟩) N c] 44 (0, 0)) from HS4.out)
            have HBd := Aside0.mk (show Below w.heap.size w W.drew from below_drew1 HB4.out)
            clear hF HL
            go_wp2
            go_region_held3 (fun w' => w'.cell? ⟨yb, 0, none⟩ = some (.slice (some ⟨g', 0, none⟩) N c')) (go_keep) (first | (go_at_call 11; (with_reducible refine (Free_calls HAd.out F EF.out).mono ?_); rintro e w5 ⟨rfl, ⟨m5, rfl⟩⟩; have HA5 := Aside0.mk (show IsAlloc (W.drewN (1 + m5)) p' q' N T' from HA4.out.drawn ⟨⟨1 + m5, rfl⟩⟩); have HG5 := Aside0.mk (show BoolsAt (W.drewN (1 + m5)) g' N T' from HG4.out.drawn ⟨⟨1 + m5, rfl⟩⟩); have HY5 := Aside0.mk (show (W.drewN (1 + m5)).heap[yb]? = _ from HYd.out); have HS5 := Aside0.mk (show (W.drewN (1 + m5)).heap[w2.heap.size]? = _ from HSd.out); have HB5 := Aside0.mk (pw_below_drewN HB4.out (1 + m5))) | (go_at_call 19; (with_reducible refine (refFree_calls HG5.out HN.out.2 F EF.out).mono ?_); rintro e w6 ⟨rfl, hb⟩; have HA6 := Aside0.mk (HA5.out.grown hb); have HG6 := Aside0.mk (HG5.out.grown hb); have HY6 := Aside0.mk ((hb.block _ (blk_lt HY5.out)).trans HY5.out); have HS6 := Aside0.mk ((hb.block _ (blk_lt HS5.out)).trans HS5.out); have HB6 := Aside0.mk (HB5.out.trans (hb.mono HB5.out.size)); have hcy6 : w6.cell? ⟨yb, 0, none⟩ = some (.slice (some ⟨g', 0, none⟩) N c') := (blk_cell HY6.out 0).trans rfl; clear hb) | (go_at_call 10; (with_reducible refine (Rows_calls HA6.out).mono ?_); rintro e w7 ⟨v7, rfl, ho, hb⟩; have HO7 := Aside0.mk ho; have HA7 := Aside0.mk (HA6.out.grown hb); have HG7 := Aside0.mk (HG6.out.grown hb); have HY7 := Aside0.mk ((hb.block _ (blk_lt HY6.out)).trans HY6.out); have HS7 := Aside0.mk ((hb.block _ (blk_lt HS6.out)).trans HS6.out); have HB7 := Aside0.mk (HB6.out.trans (hb.mono HB6.out.size)); have hcy7 : w7.cell? ⟨yb, 0, none⟩ = some (.slice (some ⟨g', 0, none⟩) N c') := (blk_cell HY7.out 0).trans rfl; clear hb ho) | (go_at_call 20; (with_reducible refine (refRows_calls HG7.out HN.out.2).mono ?_); rintro e w8 ⟨v8, rfl, ho, hb⟩; have HO8 := Aside0.mk ho; have HO78 := Aside0.mk (HO7.out.grown hb); have HA8 := Aside0.mk (HA7.out.grown hb); have HG8 := Aside0.mk (HG7.out.grown hb); have HY8 := Aside0.mk ((hb.block _ (blk_lt HY7.out)).trans HY7.out); have HS8 := Aside0.mk ((hb.block _ (blk_lt HS7.out)).trans HS7.out); have HB8 := Aside0.mk (HB7.out.trans (hb.mono HB7.out.size)); have hcy8 : w8.cell? ⟨yb, 0, none⟩ = some (.slice (some ⟨g', 0, none⟩) N c') := (blk_cell HY8.out 0).trans rfl; obtain ⟨A78, c78, hin78⟩ := HO78.out.inside; have HI78 := Aside0.mk hin78; obtain ⟨A8, c8, hin8⟩ := HO8.out.inside; have HI8 := Aside0.mk hin8; clear hb ho hin78 hin8) | (go_at_call 13; (with_reducible refine (same_true HI78.out HI8.out HL2.out rfl).mono ?_); rintro e w9 ⟨rfl, ⟨m9, rfl⟩⟩))
            go_wp2
            have hcs8 : w8.cell? ⟨w2.heap.size, 0, none⟩ = some (.slice (some ⟨g, 0, none⟩) N c) := (blk_cell HS8.out 0).trans rfl
            have hfs8 : w8.frozen? ⟨w2.heap.size, 0, none⟩ = false := by simp [World.frozen?, HS8.out]
            have N2 := N1.out
            have N3 : ¬ yb = w2.heap.size := fun e => N2 e.symm
            go_region_held3 (fun w' => w'.cell? ⟨yb, 0, none⟩ = some (.slice (some ⟨g', 0, none⟩) N c')) (go_keep) (fail)
            go_wp2
            have HSf := Aside0.mk (show (w8.drewN (m9 + 1)).heap[w2.heap.size]? = some (.cells #[.slice (some ⟨g, 0, none⟩) N c] 44 (0, 0)) from HS8.out)
            exact ⟨⟨k + 1, p', q', T', g', c', rfl, by go_num, by omega, ⟨(HA8.out.drawn (w' := w8.drewN (m9 + 1)) ⟨⟨_, rfl⟩⟩).put44 HSf.out _⟩, ⟨(HG8.out.drawn (w' := w8.drewN (m9 + 1)) ⟨⟨_, rfl⟩⟩).put44 HSf.out _⟩, ⟨blk_setCell_self HSf.out _⟩, HQ3, ⟨(pw_below_drewN HB8.out (m9 + 1)).setCell (p := ⟨w2.heap.size, 0, none⟩) HZ.out _⟩⟩, by simp [intOf]; omega⟩
        · have hcs : wr.cell? ⟨w2.heap.size, 0, none⟩ = some (.slice (some ⟨g, 0, none⟩) N c) := (blk_cell HS.out 0).trans rfl
          have g2 : ¬ (k : Int) < (len : Int) := by omega
          by_cases q0 : i < 0
          · have E1 := Aside0.mk (show false = (decide (0 ≤ i) && T i.toNat) by rw [decide_eq_false (by omega)]; rfl)
            go_wp2_with (first | (go_at_call 15; (with_reducible refine (Has_calls HA.out i false E1.out).mono ?_); rintro e w3 ⟨rfl, ⟨m3, rfl⟩⟩) | (go_at_call 9; (with_reducible refine (lives_calls _).mono ?_); rintro e w9 ⟨rfl, hb9⟩; have HB9 := Aside0.mk ((pw_below_drewN HB.out _).trans (hb9.mono (pw_below_drewN HB.out _).size)); clear hb9))
            go_ret
            exact ⟨rfl, HB9.out⟩
          · by_cases q1 : (N : Int) ≤ i
            · have E1 := Aside0.mk (show false = (decide (0 ≤ i) && T i.toNat) by
                obtain ⟨c, cells, u, h⟩ := HA.out
                rw [h.out _ (by omega), Bool.and_false])
              go_wp2_with (first | (go_at_call 15; (with_reducible refine (Has_calls HA.out i false E1.out).mono ?_); rintro e w3 ⟨rfl, ⟨m3, rfl⟩⟩) | (go_at_call 9; (with_reducible refine (lives_calls _).mono ?_); rintro e w9 ⟨rfl, hb9⟩; have HB9 := Aside0.mk ((pw_below_drewN HB.out _).trans (hb9.mono (pw_below_drewN HB.out _).size)); clear hb9))
              go_ret
              exact ⟨rfl, HB9.out⟩
            · obtain ⟨I, rfl⟩ : ∃ I : Nat, (I : Int) = i := ⟨i.toNat, by omega⟩
              have hc := HG.out.cell I (by omega)
              have r0 : (0 : Int) ≤ (I : Int) := by omega
              have r1 : (I : Int) < (N : Int) := by omega
              have r2 : I < N := by omega
              obtain ⟨b, hb⟩ : ∃ b, T I = b := ⟨_, rfl⟩
              have E1 := Aside0.mk (show b = (decide (0 ≤ (I : Int)) && T (I : Int).toNat) by rw [Int.toNat_natCast, hb]; simp)
              rw [hb] at hc
              clear hb q0 q1
              cases b <;>
              · go_wp2_with (first | (go_at_call 15; (with_reducible refine (Has_calls HA.out _ _ E1.out).mono ?_); rintro e w3 ⟨rfl, ⟨m3, rfl⟩⟩) | (go_at_call 9; (with_reducible refine (lives_calls _).mono ?_); rintro e w9 ⟨rfl, hb9⟩; have HB9 := Aside0.mk ((pw_below_drewN HB.out _).trans (hb9.mono (pw_below_drewN HB.out _).size)); clear hb9))
                go_ret
                exact ⟨rfl, HB9.out⟩
end Go.Proofs.Ytagplafbdmjagaa.A
