/- PagerUndone. -/
import Derived.Test.YtdjpohmgljhhcaaX27
namespace Go.Proofs.Ytdjpohmgljhhcaa.A
open Go.RowKit Go.Proofs.YtdjpohmgljhhcaaW.PrintWords Go.Proofs.YtdjpohmgljhhcaaW.PrintLast Go.Proofs.YtdjpohmgljhhcaaW.PrintMore
set_option linter.unusedVariables false
set_option linter.unusedSimpArgs false
set_option maxHeartbeats 4000000
set_option maxRecDepth 100000
theorem filt_nil {n : Nat} {S : Nat → Nat} {s : Nat} (h : ∀ i, i < n → S i ≠ s) : filt n S s = [] := by
  unfold filt
  rw [List.filter_eq_nil_iff]
  intro x hx
  rw [List.mem_range] at hx
  simp [h x hx]
theorem OwnInts.nil {w : World} {base : Nat} {v : Value} (h : OwnInts w base v []) : ∃ A c, v = .slice A 0 c := by
  obtain ⟨A, c, hi⟩ := h.inside
  exact ⟨A, c, hi.val⟩
/-- What stood as settled or free stands so, or is old or fresh. -/
def Inv (S0 S : Nat → Nat) : Prop := ∀ i, i < 8 → (S0 i = 1 ∧ (S i = 1 ∨ S i = 3)) ∨ (S0 i = 0 ∧ (S i = 0 ∨ S i = 2))
theorem Inv.step {S0 S S' : Nat → Nat} (h : Inv S0 S) (hs : Step 8 S S') : Inv S0 S' := by
  intro i hi
  have h1 := h i hi
  rcases hs with rfl | ⟨j, hj, h0, rfl⟩ | ⟨j, rfl⟩ | rfl
  · exact h1
  · unfold upd
    by_cases e : i = j
    · subst e; rw [if_pos rfl]; omega
    · rw [if_neg e]; exact h1
  · unfold relS
    split
    · split
      · unfold upd
        by_cases e : i = j.toNat
        · subst e; rw [if_pos rfl]; omega
        · rw [if_neg e]; exact h1
      · split
        · unfold upd
          by_cases e : i = j.toNat
          · subst e; rw [if_pos rfl]; omega
          · rw [if_neg e]; exact h1
        · exact h1
    · exact h1
  · unfold turnS
    split
    · omega
    · split
      · omega
      · exact h1
theorem Inv.undone {S0 S : Nat → Nat} (h : Inv S0 S) : ∀ i, i < 8 → S0 i = turnS 2 3 S i := by
  intro i hi
  have h1 := h i hi
  unfold turnS
  split
  · omega
  · split <;> omega
theorem pagerUndone_walk (w : World) (A0 : Option Addr) (len0 cap0 : Nat) (hl0 : len0 < 9223372036854775808) (h0 : ActsIn w w.heap.size A0 len0) (A1 : Option Addr) (len1 cap1 : Nat) (hl1 : len1 < 9223372036854775808) (h1 : ActsIn w w.heap.size A1 len1) :
    Calls Try.prog 3 #[.slice A0 len0 cap0, .slice A1 len1 cap1] w fun e w' => e = .returned (.bool true) ∧ Below w.heap.size w w' := by
  have HA0 := Aside0.mk h0
  have HA1 := Aside0.mk h1
  have HL0 := Aside0.mk hl0
  have HL1 := Aside0.mk hl1
  clear h0 h1 hl0
  go_enter Try.func3, Try.ntmps3
  go_wp2_with fail
  (with_reducible refine (begun_calls w w.heap.size (Nat.le_refl _) A0 len0 cap0 HL0.out HA0.out).mono ?_)
  rintro e w1 ⟨p, d, S, K, P, rfl, hp, hb, hpl⟩
  have H1 := Aside0.mk hp
  have HB1 := Aside0.mk hb
  have HPL := Aside0.mk hpl
  clear hp hb hpl
  go_wp2_with fail
  (with_reducible refine (few_calls w1 w.heap.size A0 len0 cap0 HL0.out (HA0.out.low HB1.out)).mono ?_)
  rintro e w2 ⟨b, rfl, rfl, hf⟩
  clear hf
  cases b
  · go_wp2_with (first | (go_at_call 8; (with_reducible refine (lives_calls _).mono ?_); rintro e w3 ⟨rfl, hb⟩; have HB3 := Aside0.mk (HB1.out.trans (hb.mono HB1.out.size)); clear hb))
    go_ret
    exact ⟨rfl, HB3.out⟩
  go_wp2_with fail
  (with_reducible refine (few_calls w1 w.heap.size A1 len1 cap1 HL1.out (HA1.out.low HB1.out)).mono ?_)
  rintro e w2 ⟨b, rfl, rfl, hf⟩
  cases b
  · clear hf
    go_wp2_with (first | (go_at_call 8; (with_reducible refine (lives_calls _).mono ?_); rintro e w3 ⟨rfl, hb⟩; have HB3 := Aside0.mk (HB1.out.trans (hb.mono HB1.out.size)); clear hb))
    go_ret
    exact ⟨rfl, HB3.out⟩
  have HLE := Aside0.mk (hf rfl)
  clear hf
  go_wp2_with fail
  (with_reducible refine (Settle_calls H1.out).mono ?_)
  rintro e w3 ⟨rfl, hp, hm⟩
  have hs0 : ∀ i, i < 8 → turnS 3 2 S i = 0 ∨ turnS 3 2 S i = 1 := by
    intro i hi
    have := H1.out.vals i hi
    unfold turnS
    split
    · exact Or.inl rfl
    · split
      · exact Or.inr rfl
      · omega
  generalize turnS 3 2 S = S0 at hp hs0
  have H3 := Aside0.mk hp
  have HS0 := Aside0.mk hs0
  have HB3 := Aside0.mk (HB1.out.trans hm.below)
  have HE2 := Aside0.mk (filt_nil (n := 8) (S := S0) (s := 2) (fun i hi => by have := hs0 i hi; omega))
  have HE3 := Aside0.mk (filt_nil (n := 8) (S := S0) (s := 3) (fun i hi => by have := hs0 i hi; omega))
  clear hp hm hs0
  go_wp2_with fail
  (with_reducible refine (Pages_calls H3.out).mono ?_)
  rintro e w4 ⟨v1, v2, v3, rfl, o1, o2, o3, hb⟩
  rw [HE2.out] at o2
  rw [HE3.out] at o3
  obtain ⟨A2, c2, rfl⟩ := o2.nil
  obtain ⟨A3, c3, rfl⟩ := o3.nil
  have HO1 := Aside0.mk o1
  have H4 := Aside0.mk (H3.out.grown hb)
  have HB4 := Aside0.mk (HB3.out.trans (hb.mono H3.out.lt))
  clear o1 o2 o3 hb
  obtain ⟨F, hF⟩ : ∃ F, F + cnt (tk 8 S0) 8 = 8 := ⟨8 - cnt (tk 8 S0) 8, by have := cnt_le (tk 8 S0) 8; omega⟩
  have HF := Aside0.mk hF
  clear hF
  go_wp2_with fail
  (with_reducible refine (pFree_calls H4.out F HF.out).mono ?_)
  rintro e w5 ⟨rfl, hd⟩
  have H5 := Aside0.mk (H4.out.drawn hd)
  have HO5 := Aside0.mk (HO1.out.grown hd.below)
  have HB5 := Aside0.mk (HB4.out.trans (hd.below.mono HB4.out.size))
  clear hd
  go_wp2
  go_loopw [11] (fun v wr => ∃ j : Nat, v = .int .i64 (j : Int) ∧ j ≤ len1 ∧ Aside0 (∃ S' K' P', IsPager w.heap.size wr p d 3 8 70 S' K' P' ∧ P'.length ≤ 800 + 8 * j ∧ Inv S0 S') ∧ Aside0 (Moves Mp w.heap.size w5 wr)) (fun v _ => len1 - (intOf v).toNat)
  case atStart => exact ⟨0, rfl, by omega, ⟨S0, K, P, H5.out, HPL.out, fun i hi => by have := HS0.out i hi; omega⟩, ⟨Moves.refl _ _ _⟩⟩
  case round =>
    obtain ⟨j, rfl, hj, ⟨S1, K1, P1, hp, hpl, hinv⟩, HM⟩ := hrel
    have HP := Aside0.mk hp
    have HPL1 := Aside0.mk hpl
    have HI := Aside0.mk hinv
    clear hp hpl hinv
    by_cases g1 : j < len1
    · have i0 : (0 : Int) ≤ (j : Int) := by omega
      have i1 : (j : Int) < (len1 : Int) := by omega
      obtain ⟨g, o, rfl, _, kd, i, s, B, l, c, hl1', hl2, hin, hr⟩ := ((HA1.out.low HB5.out).low HM.out.below).cell j g1
      have HIN := Aside0.mk hin
      have HRG := Aside0.mk hr
      have HLL1 := Aside0.mk hl1'
      have HLL2 := Aside0.mk hl2
      have HEL := Aside0.mk (show (Try.prog.info? 36).map (·.size) = some [Value.int .i64 kd, Value.int .i64 i, Value.string s, Value.slice B l c].length from size36)
      have HP9 := Aside0.mk (show P1.length ≤ 90000 by have := HPL1.out; have := HLE.out; omega)
      have hc0 : wr.cell? ⟨g, o + j * 4, none⟩ = some (.int .i64 kd) := hr 0 _ rfl
      clear hin hr hl1' hl2
      by_cases k3 : kd = 3
      · subst k3
        clear HRG
        go_wp2
        exact ⟨⟨j + 1, by go_num, by omega, ⟨S1, K1, P1, HP.out, by have := HPL1.out; omega, HI.out⟩, HM⟩, by simp [intOf]; omega⟩
      · by_cases k5 : kd = 5
        · subst k5
          clear HRG
          go_wp2
          exact ⟨⟨j + 1, by go_num, by omega, ⟨S1, K1, P1, HP.out, by have := HPL1.out; omega, HI.out⟩, HM⟩, by simp [intOf]; omega⟩
        · have HK := Aside0.mk (And.intro k3 k5)
          have q3 : (kd != 3) = true := by rw [bne_iff_ne]; exact k3
          have q5 : (kd != 5) = true := by rw [bne_iff_ne]; exact k5
          go_wp2_with (first | (with_reducible refine wpList_load_mid rfl 36 (.tmp 77) rfl g (o + j * 4) rfl [.int .i64 kd, .int .i64 i, .string s, .slice B l c] _ HRG.out Try.underlying36 rfl HEL.out ?_) | (go_at_call 12; (with_reducible refine (play_calls HP.out HP9.out kd i s B l c HLL1.out HLL2.out HIN.out).mono ?_); rintro e w6 ⟨S3, K3, P3, rfl, hp, hl, hm, hs⟩; have HP3 := Aside0.mk hp; have HPL3 := Aside0.mk hl; have HM3 := Aside0.mk (HM.out.trans hm); have HI3 := Aside0.mk (HI.out.step (hs HK.out.1 HK.out.2)); clear hp hl hm hs))
          exact ⟨⟨j + 1, by go_num, by omega, ⟨S3, K3, P3, HP3.out, by have := HPL3.out; have := HPL1.out; omega, HI3.out⟩, HM3⟩, by simp [intOf]; omega⟩
    · have i1 : ¬ (j : Int) < (len1 : Int) := by omega
      go_wp2_with fail
      (with_reducible refine (Undo_calls HP.out).mono ?_)
      rintro e w6 ⟨rfl, hp, hm⟩
      have H6 := Aside0.mk (hp.congr HI.out.undone)
      have HB6 := Aside0.mk ((HB5.out.trans HM.out.below).trans hm.below)
      have HO6 := Aside0.mk ((HO5.out.moves HM.out rfl).moves hm rfl)
      clear hp hm
      go_wp2_with fail
      (with_reducible refine (Pages_calls H6.out).mono ?_)
      rintro e w7 ⟨u1, u2, u3, rfl, o1, o2, o3, hb⟩
      rw [HE2.out] at o2
      rw [HE3.out] at o3
      obtain ⟨A2', c2', rfl⟩ := o2.nil
      obtain ⟨A3', c3', rfl⟩ := o3.nil
      obtain ⟨Au, cu, hu⟩ := o1.inside
      obtain ⟨Av, cv, hv⟩ := (HO6.out.grown hb).inside
      have HU := Aside0.mk hu
      have HV := Aside0.mk hv
      have H7 := Aside0.mk (H6.out.grown hb)
      have HB7 := Aside0.mk (HB6.out.trans (hb.mono HB6.out.size))
      have HFL := Aside0.mk (show (filt 8 S0 1).length ≤ 16400 from Nat.le_trans (filt_len 8 S0 1) (by decide))
      clear o1 o2 o3 hb hu hv
      go_wp2_with fail
      (with_reducible refine (same_true HU.out HV.out HFL.out rfl).mono ?_)
      rintro e w8 ⟨rfl, hd⟩
      have H8 := Aside0.mk (H7.out.drawn hd)
      have HB8 := Aside0.mk (HB7.out.trans (hd.below.mono HB7.out.size))
      clear hd
      go_wp2_with fail
      (with_reducible refine (pFree_calls H8.out F HF.out).mono ?_)
      rintro e w9 ⟨rfl, hd⟩
      have HB9 := Aside0.mk (HB8.out.trans (hd.below.mono HB8.out.size))
      clear hd
      go_wp2_with fail
      (with_reducible refine (lives_calls _).mono ?_)
      rintro e w10 ⟨rfl, hb⟩
      have HB10 := Aside0.mk (HB9.out.trans (hb.mono HB9.out.size))
      clear hb
      go_wp2
      go_ret
      exact ⟨rfl, HB10.out⟩
end Go.Proofs.Ytdjpohmgljhhcaa.A
