/- AllocBack's walk. -/
import Derived.Test.YtagplafbdmjagaaV18
namespace Go.Proofs.Ytagplafbdmjagaa.A
open Go.RowKit Go.Proofs.YtagplafbdmjagaaW.PrintWords Go.Proofs.YtagplafbdmjagaaW.PrintLast Go.Proofs.YtagplafbdmjagaaW.PrintMore
set_option linter.unusedVariables false
set_option maxHeartbeats 4000000
set_option maxRecDepth 100000
theorem own_own {w w' : World} {base e size n q : Nat} {v : Value} {xs : List Value} (h : w.ownsRow base e size v n xs) (hb : Own q w w') (hq : q < base) : w'.ownsRow base e size v n xs := by
  obtain ⟨h1, h2⟩ := h
  refine ⟨h1, ?_⟩
  rcases h2 with h2 | ⟨g, cap, cur, e1, e2, e3, e4⟩
  · exact Or.inl h2
  · exact Or.inr ⟨g, cap, cur, e1, e2, (hb.block g (blk_lt e3) (by omega)).trans e3, e4⟩
theorem OwnRows.own {w w' : World} {base q : Nat} {v : Value} {L : List (Nat × Nat)} (h : OwnRows w base v L) (hb : Own q w w') (hq : q < base) : OwnRows w' base v L := own_own h hb hq
theorem OwnRows.grown {w w' : World} {base : Nat} {v : Value} {L : List (Nat × Nat)} (h : OwnRows w base v L) (hb : Below w.heap.size w w') : OwnRows w' base v L := own_below h hb
/-- Outside of so many pages, from one on, pages stand as they stood; the first ones of them are free. -/
def Within (T T' : Nat → Bool) (i K j : Nat) : Prop := (∀ x, ¬ (i ≤ x ∧ x < i + K) → T' x = T x) ∧ ∀ x, i ≤ x → x < i + j → T' x = false
theorem Within.done {T T' : Nat → Bool} {n i K : Nat} (h : Within T T' i K K) (hr : RowAt T n i K) : T' = T := by
  funext x
  by_cases g : i ≤ x ∧ x < i + K
  · rw [h.2 x g.1 g.2, hr.2 x g.1 g.2]
  · exact h.1 x g
theorem Within.give {T T' T2 : Nat → Bool} {n i K d : Nat} {er : Int} (h : Within T T' i K 0) (hd : d < K) (hr : GiveR T' n ((i + d : Nat) : Int) 1 er T2) : Within T T2 i K 0 := by
  refine ⟨fun x hx => ?_, fun x h1 h2 => absurd h2 (by omega)⟩
  rcases hr with ⟨_, _, rfl⟩ | ⟨_, _, _, rfl⟩ | ⟨_, _, _, _, _, rfl⟩ | ⟨_, _, _, _, _, rfl⟩
  · exact h.1 x hx
  · exact h.1 x hx
  · exact h.1 x hx
  · unfold setT
    rw [if_neg (by rw [Int.toNat_natCast]; have : (1 : Int).toNat = 1 := rfl; omega)]
    exact h.1 x hx
theorem Within.step {T T' : Nat → Bool} {i K j : Nat} (h : Within T T' i K j) (hj : j < K) (hf : T' (i + j) = false) : Within T T' i K (j + 1) :=
  ⟨h.1, fun x h1 h2 => if e : x = i + j then by rw [e]; exact hf else h.2 x h1 (by omega)⟩
theorem Within.gave {T T' : Nat → Bool} {i K j : Nat} (h : Within T T' i K j) (hj : j < K) : Within T (setT T' (i + j) 1 false) i K (j + 1) := by
  refine ⟨fun x hx => ?_, fun x h1 h2 => ?_⟩
  · unfold setT
    rw [if_neg (by omega)]
    exact h.1 x hx
  · unfold setT
    split
    · rfl
    · exact h.2 x h1 (by omega)
theorem back_index (a : Int) (ti K : Nat) (h1 : 1 ≤ K) (h : ti + K ≤ 100) : ∃ d, d < K ∧ wrap64 ((ti : Int) + wrap64 ((IntKind.u64.wrap a).tmod (K : Int))) = ((ti + d : Nat) : Int) := by
  have e2 : IntKind.u64.wrap a = a % 18446744073709551616 := by simp [IntKind.wrap, IntKind.bits, IntKind.signed]
  have e3 : 0 ≤ IntKind.u64.wrap a := by rw [e2]; omega
  generalize IntKind.u64.wrap a = u at *
  have h2 := Int.tmod_lt_of_pos u (show (0 : Int) < (K : Int) by omega)
  have h3 := Int.tmod_nonneg (K : Int) e3
  generalize u.tmod (K : Int) = t at *
  refine ⟨t.toNat, by omega, ?_⟩
  unfold wrap64
  omega
theorem allocBack_walk (w : World) (A : Option Addr) (len cap : Nat) (hl : len < 9223372036854775808) (h : ActsIn w w.heap.size A len) (k : Int) (hk : k < 9223372036854775808) (A2 : Option Addr) (len2 cap2 : Nat) (hl2 : len2 < 9223372036854775808) (h2 : IntsIn w w.heap.size A2 len2) : Calls Try.prog 4 #[.slice A len cap, .int .i64 k, .slice A2 len2 cap2] w fun e w' => e = .returned (.bool true) ∧ Below w.heap.size w w' := by
  have H := Aside0.mk h
  have H2 := Aside0.mk h2
  clear h h2
  go_enter Try.func4, Try.ntmps4
  go_wp2_with (first | (go_at_call 8; (with_reducible refine (begun_calls _ A len cap hl H.out).mono ?_); rintro e w1 ⟨p, q, T, rfl, hp, hq, ha, hb⟩; have HP := Aside0.mk hp; have HQ := Aside0.mk hq; have HA1 := Aside0.mk ha; have HB1 := Aside0.mk hb; clear hp hq ha hb) | (go_at_call 10; (with_reducible refine (Rows_calls HA1.out).mono ?_); rintro e w2 ⟨v2, rfl, ho, hb⟩; have HO2 := Aside0.mk ho; have HA2 := Aside0.mk (HA1.out.grown hb); have HQ2 := Aside0.mk (blk_lt_alloc HA1.out).2; have HB2 := Aside0.mk (HB1.out.trans (hb.mono HB1.out.size)); clear ho hb))
  refine (Take_calls HA2.out k hk).mono ?_
  rintro e w3 ⟨ti, er, T', rfl, hr, ha, ho⟩
  have HO3 := Aside0.mk (HO2.out.own ho HQ2.out)
  have HA3 := Aside0.mk ha
  have HB3 := Aside0.mk (HB2.out.trans (ho.below HQ.out HB2.out.size))
  clear ha ho
  rcases hr with ⟨r1, rfl, rfl, rfl⟩ | ⟨r1, r2, r3, rfl, rfl⟩ | ⟨r1, r2, rfl, rfl, rfl⟩
  · go_wp2_with (first | (go_at_call 10; (with_reducible refine (Rows_calls HA3.out).mono ?_); rintro e w4 ⟨v4, rfl, ho, hb⟩; obtain ⟨A4, c4, hin⟩ := ho.inside; obtain ⟨A2, c2, hin2⟩ := (HO3.out.grown hb).inside; have HI4 := Aside0.mk hin; have HI2 := Aside0.mk hin2; have HB4 := Aside0.mk (HB3.out.trans (hb.mono HB3.out.size)); clear ho hb hin hin2) | (go_at_call 13; (with_reducible refine (same_true HI4.out HI2.out (rows_short _) rfl).mono ?_); rintro e w6 ⟨rfl, ⟨m6, rfl⟩⟩; have HB6 := Aside0.mk (pw_below_drewN HB4.out m6)) | (go_at_call 9; (with_reducible refine (lives_calls _).mono ?_); rintro e w9 ⟨rfl, hb9⟩; have HB9 := Aside0.mk (HB6.out.trans (hb9.mono HB6.out.size)); clear hb9))
    go_ret
    exact ⟨rfl, HB9.out⟩
  · rw [show k = (k.toNat : Int) by omega] at *
    generalize k.toNat = K at *
    rw [Int.toNat_natCast] at *
    have hK1 : (1 : Int) ≤ (K : Int) := r1
    have hKn : ti + K ≤ 100 := r2.1
    have HR := Aside0.mk r2
    have t0 : (0 : Int) ≤ (ti : Int) := by omega
    have t1 : (K : Int) ≤ 100 := by omega
    have t3 : K ≤ 100 := by omega
    clear r1 r2 r3 hk
    go_wp2
    go_loopw [11] (fun vi wr => ∃ (j : Nat) (T2 : Nat → Bool), vi = .int .i64 j ∧ j ≤ len2 ∧ Aside0 (IsAlloc wr p q 100 T2 ∧ Within T T2 ti K 0) ∧ Aside0 (OwnRows wr w1.heap.size v2 (rowsOf T 100)) ∧ Aside0 (Below w.heap.size w wr)) (fun vi _ => len2 - (intOf vi).toNat)
    case atStart => exact ⟨0, _, rfl, by omega, ⟨HA3.out, ⟨fun x hx => by unfold setT; rw [if_neg hx], fun x h1 h2 => absurd h2 (by omega)⟩⟩, HO3, HB3⟩
    case round =>
      obtain ⟨j, T2, rfl, hj, HA, HO, HB⟩ := hrel
      by_cases g1 : j < len2 ∧ j < 200
      · obtain ⟨g1a, g1b⟩ := g1
        obtain ⟨g, o, rfl, hg, a, ca⟩ := H2.out.cell j g1a
        have da := (HB.out.cell (p := ⟨g, o + j, none⟩) hg).trans ca
        clear ca
        have i0 : (0 : Int) ≤ (j : Int) := by omega
        have i1 : (j : Int) < (len2 : Int) := by omega
        have i2 : (j : Int) < 200 := by omega
        obtain ⟨d, hd, he⟩ := back_index a ti K (by omega) hKn
        have HD := Aside0.mk hd
        have HE := Aside0.mk he
        clear hd he
        go_wp2_with fail
        rw [HE.out]
        (with_reducible refine (Give_calls HA.out.1 ((ti + d : Nat) : Int) 1 (by decide)).mono ?_)
        rintro e w4 ⟨er, T3, rfl, hr, ha, ho⟩
        have HA4 := Aside0.mk (And.intro ha (HA.out.2.give HD.out hr))
        have HO4 := Aside0.mk (HO.out.own ho HQ2.out)
        have HB4 := Aside0.mk (HB.out.trans (ho.below HQ.out HB.out.size))
        clear hr ha ho HA HB HO
        go_wp2
        exact ⟨⟨j + 1, T3, by go_num, by omega, HA4, HO4, HB4⟩, by simp [intOf]; omega⟩
      · have g2 : (¬ (j : Int) < (len2 : Int)) ∨ ((j : Int) < (len2 : Int) ∧ ¬ (j : Int) < 200) := by omega
        have HWn := Aside0.mk HA.out.2
        have HAn := Aside0.mk HA.out.1
        clear g1 HA
        rcases g2 with g2 | ⟨g2, g3⟩ <;>
        · go_wp2
          go_loopw [12] (fun vi wr => ∃ (j : Nat) (T2 : Nat → Bool), vi = .int .i64 j ∧ j ≤ K ∧ Aside0 (IsAlloc wr p q 100 T2) ∧ Aside0 (Within T T2 ti K j) ∧ Aside0 (OwnRows wr w1.heap.size v2 (rowsOf T 100)) ∧ Aside0 (Below w.heap.size w wr)) (fun vi _ => K - (intOf vi).toNat)
          case atStart => exact ⟨0, _, rfl, by omega, HAn, HWn, HO, HB⟩
          case round =>
            obtain ⟨x, T3, rfl, hx, HA5, HW5, HO5, HB5⟩ := hrel
            clear HA3 HO3 HB3 HAn HWn HO HB HA1 HO2 HA2
            obtain ⟨z, hz⟩ : ∃ z, ti + x = z := ⟨_, rfl⟩
            have HZ := Aside0.mk hz
            have HZi := Aside0.mk (show (z : Int) = (ti : Int) + (x : Int) by omega)
            by_cases g5 : x < K
            · have hz2 : z < 100 := by omega
              cases ht : T3 z with
              | true =>
                have E1 := Aside0.mk (show true = (decide ((0 : Int) ≤ (z : Int)) && T3 (z : Int).toNat) by rw [Int.toNat_natCast, ht]; simp)
                have EA := Aside0.mk (show ∀ j, z ≤ j → j < z + 1 → T3 j = true from fun j a b => by rw [show j = z by omega]; exact ht)
                have EN := Aside0.mk (show z + 1 ≤ 100 by omega)
                have EW := Aside0.mk (show Within T (setT T3 z 1 false) ti K (x + 1) by rw [← HZ.out]; exact HW5.out.gave g5)
                clear ht hz
                go_wp2_with fail
                rw [← HZi.out]
                (with_reducible refine (Has_calls (HA5.out.drawn (by repeat (first | exact Drawn0.refl _ | apply Drawn0.step))) _ _ E1.out).mono ?_)
                rintro e w4 ⟨rfl, ⟨m4, rfl⟩⟩
                go_wp2_with fail
                rw [← HZi.out]
                (with_reducible refine (Give_all (HA5.out.drawn (w' := wr.drewN m4) ⟨⟨m4, rfl⟩⟩) z 1 (by decide) (by decide) EN.out EA.out _ 1 rfl rfl).mono ?_)
                rintro e w6 ⟨rfl, ha, ho⟩
                have HA6 := Aside0.mk ha
                have HO6 := Aside0.mk ((HO5.out.grown (pw_below_drewN (Below.refl _ _) _)).own ho HQ2.out)
                have HB6 := Aside0.mk ((pw_below_drewN HB5.out _).trans (ho.below HQ.out (pw_below_drewN HB5.out _).size))
                clear ha ho
                go_wp2
                exact ⟨⟨x + 1, _, by go_num, by omega, HA6, EW, HO6, HB6⟩, by simp [intOf]; omega⟩
              | false =>
                have E1 := Aside0.mk (show false = (decide ((0 : Int) ≤ (z : Int)) && T3 (z : Int).toNat) by rw [Int.toNat_natCast, ht]; simp)
                have EW := Aside0.mk (show Within T T3 ti K (x + 1) from HW5.out.step g5 (by rw [HZ.out]; exact ht))
                clear ht hz
                go_wp2_with fail
                rw [← HZi.out]
                (with_reducible refine (Has_calls (HA5.out.drawn (by repeat (first | exact Drawn0.refl _ | apply Drawn0.step))) _ _ E1.out).mono ?_)
                rintro e w4 ⟨rfl, ⟨m4, rfl⟩⟩
                go_wp2
                exact ⟨⟨x + 1, _, by go_num, by omega, ⟨HA5.out.drawn ⟨⟨_, rfl⟩⟩⟩, EW, ⟨HO5.out.grown (pw_below_drewN (Below.refl _ _) _)⟩, ⟨pw_below_drewN HB5.out _⟩⟩, by simp [intOf]; omega⟩
            · obtain rfl : x = K := by omega
              have ET := Aside0.mk (HW5.out.done HR.out)
              go_wp2_with (first | (go_at_call 10; (with_reducible refine (Rows_calls HA5.out).mono ?_); rintro e w4 ⟨v4, rfl, ho, hb⟩; obtain ⟨A4, c4, hin⟩ := ho.inside; obtain ⟨A2, c2, hin2⟩ := (HO5.out.grown hb).inside; have HI4 := Aside0.mk hin; have HI2 := Aside0.mk hin2; have HB4 := Aside0.mk (HB5.out.trans (hb.mono HB5.out.size)); clear ho hb hin hin2) | (go_at_call 13; (with_reducible refine (same_true HI4.out HI2.out (rows_short _) (by rw [ET.out])).mono ?_); rintro e w6 ⟨rfl, ⟨m6, rfl⟩⟩; have HB6 := Aside0.mk (pw_below_drewN HB4.out m6)) | (go_at_call 9; (with_reducible refine (lives_calls _).mono ?_); rintro e w9 ⟨rfl, hb9⟩; have HB9 := Aside0.mk (HB6.out.trans (hb9.mono HB6.out.size)); clear hb9))
              go_ret
              exact ⟨rfl, HB9.out⟩
  · clear r2
    go_wp2_with (first | (go_at_call 10; (with_reducible refine (Rows_calls HA3.out).mono ?_); rintro e w4 ⟨v4, rfl, ho, hb⟩; obtain ⟨A4, c4, hin⟩ := ho.inside; obtain ⟨A2, c2, hin2⟩ := (HO3.out.grown hb).inside; have HI4 := Aside0.mk hin; have HI2 := Aside0.mk hin2; have HB4 := Aside0.mk (HB3.out.trans (hb.mono HB3.out.size)); clear ho hb hin hin2) | (go_at_call 13; (with_reducible refine (same_true HI4.out HI2.out (rows_short _) rfl).mono ?_); rintro e w6 ⟨rfl, ⟨m6, rfl⟩⟩; have HB6 := Aside0.mk (pw_below_drewN HB4.out m6)) | (go_at_call 9; (with_reducible refine (lives_calls _).mono ?_); rintro e w9 ⟨rfl, hb9⟩; have HB9 := Aside0.mk (HB6.out.trans (hb9.mono HB6.out.size)); clear hb9))
    go_ret
    exact ⟨rfl, HB9.out⟩
end Go.Proofs.Ytagplafbdmjagaa.A
