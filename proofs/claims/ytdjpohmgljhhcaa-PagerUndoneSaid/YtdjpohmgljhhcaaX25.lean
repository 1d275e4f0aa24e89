/- Keep of a pager. -/
import Derived.Test.YtdjpohmgljhhcaaX24
namespace Go.Proofs.Ytdjpohmgljhhcaa.A
open Go.RowKit Go.Proofs.YtdjpohmgljhhcaaW.PrintWords Go.Proofs.YtdjpohmgljhhcaaW.PrintLast Go.Proofs.YtdjpohmgljhhcaaW.PrintMore
set_option linter.unusedVariables false
set_option linter.unusedSimpArgs false
set_option maxHeartbeats 4000000
set_option maxRecDepth 100000
/-- A slice of ints whose values are named. -/
structure IntsOf (w : World) (N : Nat) (A : Option Addr) (len : Nat) (V : Nat → Int) : Prop where
  cell : ∀ j, j < len → ∃ g o, A = some ⟨g, o, none⟩ ∧ g < N ∧ w.cell? ⟨g, o + j, none⟩ = some (.int .i64 (V j))
theorem IntsIn.named {w : World} {N : Nat} {A : Option Addr} {len : Nat} (h : IntsIn w N A len) : ∃ V, IntsOf w N A len V := by
  refine ⟨fun j => match A with
    | some ⟨g, o, _⟩ => (match w.cell? ⟨g, o + j, none⟩ with
      | some (.int _ a) => a
      | _ => 0)
    | none => 0, ⟨fun j hj => ?_⟩⟩
  obtain ⟨g, o, rfl, hg, a, hc⟩ := h.cell j hj
  refine ⟨g, o, rfl, hg, ?_⟩
  simp only [hc]
theorem IntsOf.low {w w' : World} {N N' : Nat} {A : Option Addr} {len : Nat} {V : Nat → Int} (h : IntsOf w N A len V) (hb : Below N' w w') (hN : N ≤ N') : IntsOf w' N A len V where
  cell := by
    intro j hj
    obtain ⟨g, o, e, hg, hc⟩ := h.cell j hj
    exact ⟨g, o, e, hg, (hb.cell (p := ⟨g, o + j, none⟩) (by simp only; omega)).trans hc⟩
theorem IntsOf.ints {w : World} {N : Nat} {A : Option Addr} {len : Nat} {V : Nat → Int} (h : IntsOf w N A len V) : IntsIn w N A len where
  cell := by
    intro j hj
    obtain ⟨g, o, e, hg, hc⟩ := h.cell j hj
    exact ⟨g, o, e, hg, _, hc⟩
theorem IntsOf.short {w : World} {N : Nat} {A : Option Addr} {len m : Nat} {V : Nat → Int} (h : IntsOf w N A len V) (hm : m ≤ len) : IntsIn w N A m where
  cell := by
    intro j hj
    obtain ⟨g, o, e, hg, hc⟩ := h.cell j (by omega)
    exact ⟨g, o, e, hg, _, hc⟩
theorem keepPick_calls {N : Nat} {w : World} {p d fr n dn : Nat} {S : Nat → Nat} {K : Nat → List Value} {P : List (List Value × Nat)} (h : IsPager N w p d fr n dn S K P) (v : Int) (h0 : 0 ≤ v) (h1 : v < (n : Int)) (b : Nat) (hb : w.cell? ⟨b, 0, none⟩ = some (.pointer (some ⟨p, 0, none⟩))) : Calls Try.prog 38 #[.int .i64 v, .pointer (some ⟨b, 0, none⟩)] w (SomeBool w) := by
  obtain ⟨k, rfl⟩ : ∃ k : Nat, (k : Int) = v := ⟨v.toNat, by omega⟩
  obtain ⟨a, q, kq, sq, c, h⟩ := h
  have hc3 : w.cell? ⟨p, 3, none⟩ = some (.slice (some ⟨sq, 0, none⟩) n c) := (blk_cell h.self 3).trans rfl
  have hst := (h.states.cell k (by omega)).1
  clear h
  go_enter Try.func38, Try.ntmps38
  go_wp2_with (first | (go_at_call 31; (with_reducible refine (taken_calls w (S k) _ rfl _ rfl).mono ?_); rintro e w1 ⟨rfl, rfl⟩))
  go_ret
  exact ⟨_, rfl, rfl⟩
theorem IndexFunc_calls {N : Nat} {w : World} {p d fr n dn : Nat} {S : Nat → Nat} {K : Nat → List Value} {P : List (List Value × Nat)} (h : IsPager N w p d fr n dn S K P) (N2 : Nat) (A : Option Addr) (len cap : Nat) (V : Nat → Int) (hl : len < 9223372036854775808) (hA : IntsOf w N2 A len V) (hV : ∀ j, j < len → 0 ≤ V j ∧ V j < (n : Int)) (b : Nat) (hb : w.cell? ⟨b, 0, none⟩ = some (.pointer (some ⟨p, 0, none⟩))) :
    Calls Try.prog 52 #[.slice A len cap, .func (.func 38) #[] #[.pointer (some ⟨b, 0, none⟩)]] w (SomeInt w) := by
  have H := Aside0.mk h
  have HA := Aside0.mk hA
  have HL := Aside0.mk hl
  have HV := Aside0.mk hV
  have HB := Aside0.mk hb
  clear h hA hV hb
  go_enter Try.func52, Try.ntmps52
  go_wp2
  go_loopw [8] (fun i wr => ∃ j : Nat, i = .int .i64 j ∧ j ≤ len ∧ wr = w) (fun i _ => len - (intOf i).toNat)
  case atStart => exact ⟨0, rfl, by omega, rfl⟩
  case round =>
    obtain ⟨j, rfl, hj, rfl⟩ := hrel
    by_cases g1 : j < len
    · obtain ⟨g, o, rfl, _, hc⟩ := HA.out.cell j g1
      have HVJ := Aside0.mk (HV.out j g1)
      have i0 : (0 : Int) ≤ (j : Int) := by omega
      have i1 : (j : Int) < (len : Int) := by omega
      generalize V j = x at *
      go_wp2_with (fail)
      (with_reducible refine (keepPick_calls H.out x HVJ.out.1 HVJ.out.2 b HB.out).mono ?_)
      rintro e w1 ⟨z, rfl, rfl⟩
      cases z
      · go_wp2
        exact ⟨⟨j + 1, by go_num, by omega, trivial⟩, by simp [intOf]; omega⟩
      · go_wp2
        go_ret
        exact ⟨_, rfl, rfl⟩
    · go_wp2
      go_ret
      exact ⟨_, rfl, rfl⟩
theorem ContainsFunc_calls {N : Nat} {w : World} {p d fr n dn : Nat} {S : Nat → Nat} {K : Nat → List Value} {P : List (List Value × Nat)} (h : IsPager N w p d fr n dn S K P) (N2 : Nat) (A : Option Addr) (len cap : Nat) (V : Nat → Int) (hl : len < 9223372036854775808) (hA : IntsOf w N2 A len V) (hV : ∀ j, j < len → 0 ≤ V j ∧ V j < (n : Int)) (b : Nat) (hb : w.cell? ⟨b, 0, none⟩ = some (.pointer (some ⟨p, 0, none⟩))) :
    Calls Try.prog 37 #[.slice A len cap, .func (.func 38) #[] #[.pointer (some ⟨b, 0, none⟩)]] w (SomeBool w) := by
  have H := Aside0.mk h
  have HA := Aside0.mk hA
  have HL := Aside0.mk hl
  have HV := Aside0.mk hV
  have HB := Aside0.mk hb
  clear h hA hV hb hl
  go_enter Try.func37, Try.ntmps37
  go_wp2_with (first | (go_at_call 52; (with_reducible refine (IndexFunc_calls H.out N2 A len cap V HL.out HA.out HV.out b HB.out).mono ?_); rintro e w1 ⟨z, rfl, rfl⟩))
  go_ret
  exact ⟨_, rfl, rfl⟩
/-- Claim of a page, and its state then. -/
theorem PagerAt.claimed {N : Nat} {w w1 : World} {p a q d kq sq c fr n dn : Nat} {S : Nat → Nat} {K : Nat → List Value} {P : List (List Value × Nat)} (h : PagerAt N w p a q d kq sq c fr n dn S K P) (k : Nat) (hk : k < n) {er : Int} {T' : Nat → Bool} (hr : ClaimR (tk n S) n (k : Int) er T') (ha : IsAlloc w1 a q n T') (ho : Own q w w1) :
    PagerAt N (w1.setCell ⟨sq, k, none⟩ (.int .i64 1)) p a q d kq sq c fr n dn (upd S k 1) K P ∧ Moves Mp N w (w1.setCell ⟨sq, k, none⟩ (.int .i64 1)) := by
  refine h.put ho k 1 hk (by decide) ?_
  rcases hr with ⟨g, _⟩ | ⟨_, _, g, _, rfl⟩ | ⟨_, _, g, _, rfl⟩
  · omega
  · rw [Int.toNat_natCast] at g
    rw [← tk_same n S k 1 hk (by simp [tk] at g; exact g.2) (by decide)]
    exact ha
  · rw [Int.toNat_natCast] at ha
    rw [← tk_upd n S k 1 hk true rfl]
    exact ha
/-- What Keep leaves. -/
def Keeps (N p d fr n dn : Nat) (K : Nat → List Value) (P : List (List Value × Nat)) (w : World) (e : Ending) (w' : World) : Prop := ∃ (er : Int) (S' : Nat → Nat), e = .returned (.int .i64 er) ∧ IsPager N w' p d fr n dn S' K P ∧ Moves Mp N w w'
theorem Keep_calls {N : Nat} {w : World} {p d fr n dn : Nat} {S : Nat → Nat} {K : Nat → List Value} {P : List (List Value × Nat)} (h : IsPager N w p d fr n dn S K P) (A : Option Addr) (len cap : Nat) (hl : len < 9223372036854775808) (hlc : len ≤ cap) (hA : IntsIn w N A len) :
    Calls Try.prog 20 #[.pointer (some ⟨p, 0, none⟩), .slice A len cap] w (Keeps N p d fr n dn K P w) := by
  have hb0 : Below w.heap.size w (w.alloc (.cells #[.pointer (some ⟨p, 0, none⟩)] 23)) := below_alloc (Below.refl _ w) _
  have hM0 := Moves.of_below (M := Mp) hb0 h.lt
  obtain ⟨V, hV⟩ := hA.named
  have HA := Aside0.mk (hV.low (hb0.mono h.lt) (Nat.le_refl _))
  have H := Aside0.mk (h.grown hb0)
  have HX := Aside0.mk (blk_new w (.cells #[.pointer (some ⟨p, 0, none⟩)] 23))
  have HM := Aside0.mk hM0
  have HL := Aside0.mk hl
  have hbx : (w.alloc (.cells #[.pointer (some ⟨p, 0, none⟩)] 23)).cell? ⟨w.heap.size, 0, none⟩ = some (.pointer (some ⟨p, 0, none⟩)) := (blk_cell HX.out 0).trans rfl
  clear h hb0 hM0 hV hA
  go_enter Try.func20, Try.ntmps20
  go_wp2_with (first | (go_at_call 23; (with_reducible refine (pmade_calls H.out).mono ?_); rintro e w1 ⟨rfl, rfl⟩))
  go_loopw [14] (fun v wr => ∃ j : Nat, v = .int .i64 (j : Int) ∧ j ≤ len ∧ wr = w.alloc (.cells #[.pointer (some ⟨p, 0, none⟩)] 23) ∧ Aside0 (∀ x, x < j → 0 ≤ V x ∧ V x < (n : Int))) (fun v _ => len - (intOf v).toNat)
  case atStart => exact ⟨0, rfl, by omega, rfl, ⟨fun x hx => by omega⟩⟩
  case round =>
    obtain ⟨j, rfl, hj, rfl, HV⟩ := hrel
    by_cases g1 : j < len
    · have HAJ := HA.out.cell j g1
      obtain ⟨g, o, rfl, hg, hc⟩ := HAJ
      have HSH := Aside0.mk (HA.out.short (m := j) (by omega))
      have HJL := Aside0.mk (show j < 9223372036854775808 by omega)
      have HVV := Aside0.mk (show ∀ (y : Int), V j = y → 0 ≤ y ∧ y < (n : Int) → ∀ x, x < j + 1 → 0 ≤ V x ∧ V x < (n : Int) from fun y hy h x hx => by
        by_cases e : x = j
        · subst e; rw [hy]; exact h
        · exact HV.out x (by omega))
      have i0 : (0 : Int) ≤ (j : Int) := by omega
      have i1 : (j : Int) < (len : Int) := by omega
      have i2 : (j : Int) ≤ (cap : Int) := by omega
      obtain ⟨y, hy⟩ : ∃ y, V j = y := ⟨_, rfl⟩
      have HY := Aside0.mk hy
      rw [hy] at hc
      clear hy hg
      by_cases g2 : 0 ≤ y ∧ y < (n : Int)
      · have HT := Aside0.mk (show true = decide (0 ≤ y ∧ y < (n : Int)) from (decide_eq_true g2).symm)
        have HG2 := Aside0.mk g2
        clear g2
        go_wp2_with (first | (go_at_call 30; (with_reducible refine (there_calls H.out y true HT.out).mono ?_); rintro e w1 ⟨rfl, rfl⟩))
        (with_reducible refine (Contains_calls _ N _ j cap HJL.out HSH.out y).mono ?_)
        rintro e w1 ⟨z, rfl, rfl⟩
        cases z
        · go_wp2
          exact ⟨⟨j + 1, by go_num, by omega, trivial, ⟨HVV.out y HY.out HG2.out⟩⟩, by simp [intOf]; omega⟩
        · go_wp2
          go_ret
          exact ⟨2, S, rfl, H.out, HM.out⟩
      · have HT := Aside0.mk (show false = decide (0 ≤ y ∧ y < (n : Int)) from (decide_eq_false g2).symm)
        clear g2
        go_wp2_with (first | (go_at_call 30; (with_reducible refine (there_calls H.out y false HT.out).mono ?_); rintro e w1 ⟨rfl, rfl⟩))
        go_ret
        exact ⟨2, S, rfl, H.out, HM.out⟩
    · obtain rfl : j = len := by omega
      go_wp2_with fail
      (with_reducible refine (ContainsFunc_calls H.out N A j cap V HL.out HA.out HV.out w.heap.size hbx).mono ?_)
      rintro e w1 ⟨z, rfl, rfl⟩
      cases z
      · go_wp2
        go_loopw [36] (fun v wr => ∃ k : Nat, v = .int .i64 (k : Int) ∧ k ≤ j ∧ Aside0 (∃ S', IsPager N wr p d fr n dn S' K P) ∧ Aside0 (Moves Mp N (w.alloc (.cells #[.pointer (some ⟨p, 0, none⟩)] 23)) wr)) (fun v _ => j - (intOf v).toNat)
        case atStart => exact ⟨0, rfl, by omega, ⟨S, H.out⟩, ⟨Moves.refl _ _ _⟩⟩
        case round =>
          obtain ⟨k, rfl, hk, ⟨S1, h1⟩, HM1⟩ := hrel
          by_cases g1 : k < j
          · have HVK := Aside0.mk (HV.out k g1)
            obtain ⟨g, o, rfl, hg, hc⟩ := (HA.out.low HM1.out.below (Nat.le_refl _)).cell k g1
            obtain ⟨y, hy⟩ : ∃ y : Nat, (y : Int) = V k := ⟨(V k).toNat, by have := HVK.out; omega⟩
            rw [← hy] at hc
            have HYN := Aside0.mk (show y < n by have := HVK.out; omega)
            obtain ⟨a, q, kq, sq, c, hp⟩ := h1
            have HP := Aside0.mk hp
            have hc0 : wr.cell? ⟨p, 0, none⟩ = some (.pointer (some ⟨a, 0, none⟩)) := (blk_cell hp.self 0).trans rfl
            have hbw : wr.cell? ⟨w.heap.size, 0, none⟩ = some (.pointer (some ⟨p, 0, none⟩)) := (blk_cell ((HM1.out.old _ _ _ _ HX.out rfl).trans HX.out) 0).trans rfl
            have HBW := Aside0.mk ((HM1.out.old _ _ _ _ HX.out rfl).trans HX.out)
            have i0 : (0 : Int) ≤ (k : Int) := by omega
            have i1 : (k : Int) < (j : Int) := by omega
            have j0 : (0 : Int) ≤ (y : Int) := by omega
            have j1 : (y : Int) < (n : Int) := by have := HYN.out; omega
            clear hp hy hg
            go_wp2_with (fail)
            (with_reducible refine (Claim_calls HP.out.alloc (y : Int)).mono ?_)
            rintro e w2 ⟨er, T', rfl, hr, ha, ho⟩
            have HPUT := Aside0.mk (HP.out.claimed y HYN.out hr ha ho)
            have hm := Own.moves (M := fun t => t == 77) HP.out.alloc ho rfl HP.out.bq
            have hsl := (hm.old _ _ _ _ HP.out.self rfl).trans HP.out.self
            have hc3 : w2.cell? ⟨p, 3, none⟩ = some (.slice (some ⟨sq, 0, none⟩) n c) := (blk_cell hsl 3).trans rfl
            have hbw2 : w2.cell? ⟨w.heap.size, 0, none⟩ = some (.pointer (some ⟨p, 0, none⟩)) := (blk_cell ((hm.old _ _ _ _ HBW.out rfl).trans HBW.out) 0).trans rfl
            have hst := (HP.out.states.moves hm rfl).cell y HYN.out
            have hst1 := hst.1
            have hst2 := hst.2
            clear hst hsl hm ha ho hr
            go_wp2
            exact ⟨⟨k + 1, by go_num, by omega, ⟨⟨_, a, q, kq, sq, c, HPUT.out.1⟩⟩, ⟨HM1.out.trans HPUT.out.2⟩⟩, by simp [intOf]; omega⟩
          · obtain ⟨S1, h1⟩ : ∃ S1, IsPager N wr p d fr n dn S1 K P := ⟨S1, h1⟩
            have H1 := Aside0.mk h1
            clear h1
            go_wp2
            go_ret
            exact ⟨0, S1, rfl, H1.out, HM.out.trans HM1.out⟩
      · go_wp2
        go_ret
        exact ⟨8, S, rfl, H.out, HM.out⟩
end Go.Proofs.Ytdjpohmgljhhcaa.A
