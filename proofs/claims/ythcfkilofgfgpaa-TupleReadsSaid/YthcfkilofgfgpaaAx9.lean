-- Written for this claim by a program of the session: the kit's printer with hand-written contracts put in. Lean checks it.
import Derived.Test.YthcfkilofgfgpaaAx0
import Derived.Test.YthcfkilofgfgpaaAx2
import Derived.Test.YthcfkilofgfgpaaAx4
import Derived.Test.YthcfkilofgfgpaaAx7
import Derived.Test.YthcfkilofgfgpaaAx8
namespace Go.Proofs.Ythcfkilofgfgpaa.A
open Go.RowKit Go.Proofs.YthcfkilofgfgpaaW.PrintWords Go.Proofs.YthcfkilofgfgpaaW.PrintLast Go.Proofs.YthcfkilofgfgpaaW.PrintMore
attribute [local go_sem] max2_int min2_int max_two min_two max_three min_three max_four min_four   -- for this text's walks alone
set_option linter.unusedVariables false
set_option linter.unusedSimpArgs false

/-! ### ambrylaw02_begins: function 19 -/
def ambrylaw02_begins.f (k : Nat) (l0 : List (S46)) (l1 : List (S46)) : Option (Bool) := if (l0.length : Int) ≤ (l1.length : Int) then (if 0 ≤ (l0.length : Int) then ((ambryref02_Same.f k l0 (l1.take ((l0.length : Int) : Int).toNat)).bind fun t247 => (some t247)) else (none)) else (some false)
theorem ambrylaw02_begins.mono : ∀ a0 a1 k, LeO (ambrylaw02_begins.f k a0 a1) (ambrylaw02_begins.f (k + 1) a0 a1) := by
  intro a0 a1 k
  unfold ambrylaw02_begins.f
  repeat' first
      | (with_reducible exact ambryref02_Same.mono _ _ _)
      | (with_reducible exact LeO.refl _)
      | (with_reducible exact LeO.none _)
      | (with_reducible refine LeO.ite ?_ ?_)
      | (with_reducible refine LeO.bind ?_ (fun _ => ?_))
      | exact ambryref02_Same.mono _ _ _
      | exact LeO.none _
      | refine LeO.ite ?_ ?_
      | refine LeO.bind ?_ (fun _ => ?_)
set_option maxHeartbeats 8000000 in
set_option maxRecDepth 100000 in
theorem ambrylaw02_begins.calls (k : Nat) (A0 : Option Addr) (c0 : Nat) (l0 : List (S46)) (A1 : Option Addr) (c1 : Nat) (l1 : List (S46)) (r : Bool) (w : World) (hr0 : Kd.C k46 w A0 l0.length l0) (hc0 : l0.length ≤ c0) (hr1 : Kd.C k46 w A1 l1.length l1) (hc1 : l1.length ≤ c1) (h : ambrylaw02_begins.f k l0 l1 = some r) :
    Calls Try.prog 19 #[.slice A0 l0.length c0, .slice A1 l1.length c1] w fun e w' => e = .returned (.bool r) ∧ Drawn0 w w' := by
  have HR0 := Aside0.mk hr0
  have HC0 := Aside0.mk hc0
  clear hr0 hc0
  have HR1 := Aside0.mk hr1
  have HC1 := Aside0.mk hc1
  clear hr1 hc1
  have H : (if (l0.length : Int) ≤ (l1.length : Int) then (if 0 ≤ (l0.length : Int) then ((ambryref02_Same.f k l0 (l1.take ((l0.length : Int) : Int).toNat)).bind fun t247 => (some t247)) else (none)) else (some false)) = some r := h
  clear h
  by_cases c3 : (l0.length : Int) ≤ (l1.length : Int)
  · rw [if_pos c3] at H
    have c3b0 : decide ((l0.length : Int) ≤ (l1.length : Int)) = true := decide_eq_true c3
    have c3b1 : decide (l0.length ≤ l1.length) = true := decide_eq_true (Int.ofNat_le.mp c3)
    clear c3
    by_cases c4 : 0 ≤ (l0.length : Int)
    · rw [if_pos c4] at H
      have c4b0 := eq_true c4
      have c4b1 : decide (0 ≤ (l0.length : Int)) = true := decide_eq_true c4
      clear c4
      have c5b0 := eq_true (of_decide_eq_true (by first | (with_reducible assumption) | assumption) : (l0.length : Int) ≤ (l1.length : Int))
      obtain ⟨y243, hy243⟩ : ∃ y_ : List (S46), y_ = (l1.take ((l0.length : Int) : Int).toNat) := ⟨_, rfl⟩
      replace H : ((ambryref02_Same.f k l0 y243).bind fun t247 => (some t247)) = some r := by first | (rw [hy243]; with_reducible exact H) | (have H2_ := (Option.bind_some _ _).symm.trans H; rw [hy243]; with_reducible exact H2_) | (have H2_ := (Option.bind_some _ _).symm.trans H; with_reducible exact H2_) | with_reducible exact H | (rw [hy243]; exact H) | exact H
      have Ny243 := Aside0.mk hy243
      clear hy243
      replace H := Option.bind_eq_some_iff.mp H
      obtain ⟨t247, A60, H⟩ := H
      replace H : (some t247) = some r := H
      have A6 := Aside0.mk A60
      clear A60
      obtain rfl := Option.some.inj H
      have q7 : ((l0.length : Int) : Int) ≤ ((l1.length : Int) : Int) := of_decide_eq_true (by first | (with_reducible assumption) | assumption)
      obtain ⟨i07, hi07, _, hsz7, _⟩ := info_parts info46
      have hroom7 : l1.length ≤ c1 := HC1.out
      have hC7 : Kd.C k46 _ A1 l1.length l1 := HR1.out
      have hcut7 := cut_to (P := Try.prog) 22 46 .i64 Try.underlying22 hi07 A1 l1.length c1 (l0.length : Int) (of_decide_eq_true (by first | (with_reducible assumption) | assumption)) q7 hroom7
      have hr7 := Kd.C_take (m := ((l0.length : Int) : Int).toNat) hC7 (by omega)
      have hy7 : y243.length = ((l0.length : Int) : Int).toNat := (by rw [Ny243.out, List.length_take]; omega)
      rw [← Ny243.out] at hr7
      rw [← hy7] at hcut7
      have HR246 := Aside0.mk hr7
      have HC246 := Aside0.mk (show y243.length ≤ c1 from by omega)
      clear hr7 hC7 hroom7 hi07 hsz7
      have KY7 := Aside0.mk hy7
      clear hy7
      replace q7 := eq_true q7
      go_enter Try.func19, Try.ntmps19
      go_wp2_with (first | (go_at_call 22; (with_reducible refine (ambryref02_Same.calls k _ _ l0 _ _ y243 t247 _ ?side1 ?side2 ?side3 ?side4 A6.out).mono ?_); (case side1 => repeat (first | exact HR0.out | (with_reducible refine Kd.C_alloc ?_ _) | (with_reducible refine Kd.C_drewN ?_ _) | (with_reducible refine Kd.C_drew ?_))); (case side2 => exact HC0.out); (case side3 => repeat (first | exact HR246.out | (with_reducible refine Kd.C_alloc ?_ _) | (with_reducible refine Kd.C_drewN ?_ _) | (with_reducible refine Kd.C_drew ?_))); (case side4 => exact HC246.out); rintro e w' ⟨rfl, ⟨nd, rfl⟩⟩))
      go_ret
      exact ⟨by first | rfl | (simp; done) | (simp [*]; done), by repeat (first | exact Drawn0.refl _ | apply Drawn0.step)⟩
    · rw [if_neg c4] at H
      exact absurd H (by simp)
  · rw [if_neg c3] at H
    have c3b0 : decide ((l0.length : Int) ≤ (l1.length : Int)) = false := decide_eq_false c3
    have c3b1 : decide (l0.length ≤ l1.length) = false := decide_eq_false (fun h => c3 (Int.ofNat_le.mpr h))
    clear c3
    obtain rfl := Option.some.inj H
    go_enter Try.func19, Try.ntmps19
    go_wp2
    go_ret
    exact ⟨by first | rfl | (simp; done) | (simp [*]; done), by repeat (first | exact Drawn0.refl _ | apply Drawn0.step)⟩

/-! ### ambrylaw02_TupleRanges: function 7 -/
mutual
def ambrylaw02_TupleRanges.j0 : Nat → List (S46) → List (S46) → Bool → Option (Bool)
  | 0, _, _, _ => none
  | k + 1, x0, x1, x17 => if x17 = true then ((ambrylaw02_lives.f k).bind fun t250 => (some t250)) else ((tuple_Encode.f k x0).bind fun bt251 => ((tuple_Encode.f k x1).bind fun bt253 => (if bt251.2 = 0 then (ambrylaw02_TupleRanges.j1 k x0 x1 bt251.1 bt253.1 (bt253.2 != 0)) else (ambrylaw02_TupleRanges.j1 k x0 x1 bt251.1 bt253.1 true))))
def ambrylaw02_TupleRanges.j1 : Nat → List (S46) → List (S46) → ByteArray → ByteArray → Bool → Option (Bool)
  | 0, _, _, _, _, _ => none
  | k + 1, x0, x1, x5, x7, x34 => if x34 = true then ((ambrylaw02_lives.f k).bind fun t255 => (some t255)) else (if ((Op.bytesLess x7.toList x5.toList) = true) then ((ambrylaw02_begins.f k x0 x1).bind fun t256 => (if (false == t256) = true then ((ambrylaw02_lives.f k).bind fun t257 => (some t257)) else (some false))) else ((tuple_Behind.f x5).bind fun t258 => ((ambrylaw02_begins.f k x0 x1).bind fun t259 => (if ((Op.bytesLess x7.toList t258.toList) == t259) = true then ((ambrylaw02_lives.f k).bind fun t260 => (some t260)) else (some false)))))
end
def ambrylaw02_TupleRanges.f (k : Nat) (l0 : List (S46)) (l1 : List (S46)) : Option (Bool) := (ambrylaw02_few.f l0).bind fun t248 => (if t248 = true then ((ambrylaw02_few.f l1).bind fun t249 => (ambrylaw02_TupleRanges.j0 k l0 l1 (!t249))) else (ambrylaw02_TupleRanges.j0 k l0 l1 true))
theorem ambrylaw02_TupleRanges.mono_l : ∀ k, (∀ y0 y1 y2, LeO (ambrylaw02_TupleRanges.j0 k y0 y1 y2) (ambrylaw02_TupleRanges.j0 (k + 1) y0 y1 y2)) ∧ (∀ y0 y1 y2 y3 y4, LeO (ambrylaw02_TupleRanges.j1 k y0 y1 y2 y3 y4) (ambrylaw02_TupleRanges.j1 (k + 1) y0 y1 y2 y3 y4))
  | 0 => ⟨fun _ _ _ r h => by simp [ambrylaw02_TupleRanges.j0] at h, fun _ _ _ _ _ r h => by simp [ambrylaw02_TupleRanges.j1] at h⟩
  | k + 1 => by
    obtain ⟨ih0, ih1⟩ := ambrylaw02_TupleRanges.mono_l k
    refine ⟨?_, ?_⟩
    · intro y0 y1 y2
      unfold ambrylaw02_TupleRanges.j0
      repeat' first
      | (with_reducible exact ih0 _ _ _)
      | (with_reducible exact ih1 _ _ _ _ _)
      | (with_reducible exact ambrylaw02_begins.mono _ _ _)
      | (with_reducible exact ambrylaw02_lives.mono _)
      | (with_reducible exact tuple_Encode.mono _ _)
      | (with_reducible exact LeO.refl _)
      | (with_reducible exact LeO.none _)
      | (with_reducible refine LeO.ite ?_ ?_)
      | (with_reducible refine LeO.bind ?_ (fun _ => ?_))
      | exact ih0 _ _ _
      | exact ih1 _ _ _ _ _
      | exact ambrylaw02_begins.mono _ _ _
      | exact ambrylaw02_lives.mono _
      | exact tuple_Encode.mono _ _
      | exact LeO.none _
      | refine LeO.ite ?_ ?_
      | refine LeO.bind ?_ (fun _ => ?_)
    · intro y0 y1 y2 y3 y4
      unfold ambrylaw02_TupleRanges.j1
      repeat' first
      | (with_reducible exact ih0 _ _ _)
      | (with_reducible exact ih1 _ _ _ _ _)
      | (with_reducible exact ambrylaw02_begins.mono _ _ _)
      | (with_reducible exact ambrylaw02_lives.mono _)
      | (with_reducible exact tuple_Encode.mono _ _)
      | (with_reducible exact LeO.refl _)
      | (with_reducible exact LeO.none _)
      | (with_reducible refine LeO.ite ?_ ?_)
      | (with_reducible refine LeO.bind ?_ (fun _ => ?_))
      | exact ih0 _ _ _
      | exact ih1 _ _ _ _ _
      | exact ambrylaw02_begins.mono _ _ _
      | exact ambrylaw02_lives.mono _
      | exact tuple_Encode.mono _ _
      | exact LeO.none _
      | refine LeO.ite ?_ ?_
      | refine LeO.bind ?_ (fun _ => ?_)
theorem ambrylaw02_TupleRanges.mono : ∀ a0 a1 k, LeO (ambrylaw02_TupleRanges.f k a0 a1) (ambrylaw02_TupleRanges.f (k + 1) a0 a1) := by
  intro a0 a1 k
  obtain ⟨ih0, ih1⟩ := ambrylaw02_TupleRanges.mono_l k
  unfold ambrylaw02_TupleRanges.f
  repeat' first
      | (with_reducible exact ih0 _ _ _)
      | (with_reducible exact ih1 _ _ _ _ _)
      | (with_reducible exact ambrylaw02_begins.mono _ _ _)
      | (with_reducible exact ambrylaw02_lives.mono _)
      | (with_reducible exact tuple_Encode.mono _ _)
      | (with_reducible exact LeO.refl _)
      | (with_reducible exact LeO.none _)
      | (with_reducible refine LeO.ite ?_ ?_)
      | (with_reducible refine LeO.bind ?_ (fun _ => ?_))
      | exact ih0 _ _ _
      | exact ih1 _ _ _ _ _
      | exact ambrylaw02_begins.mono _ _ _
      | exact ambrylaw02_lives.mono _
      | exact tuple_Encode.mono _ _
      | exact LeO.none _
      | refine LeO.ite ?_ ?_
      | refine LeO.bind ?_ (fun _ => ?_)
set_option maxHeartbeats 8000000 in
set_option maxRecDepth 100000 in
theorem ambrylaw02_TupleRanges.calls (k : Nat) (A0 : Option Addr) (c0 : Nat) (l0 : List (S46)) (A1 : Option Addr) (c1 : Nat) (l1 : List (S46)) (r : Bool) (w : World) (hr0 : Kd.C k46 w A0 l0.length l0) (hc0 : l0.length ≤ c0) (hr1 : Kd.C k46 w A1 l1.length l1) (hc1 : l1.length ≤ c1) (h : ambrylaw02_TupleRanges.f k l0 l1 = some r) :
    Calls Try.prog 7 #[.slice A0 l0.length c0, .slice A1 l1.length c1] w fun e w' => e = .returned (.bool r) ∧ Below w.heap.size w w' := by
  have HR0 := Aside0.mk hr0
  have HC0 := Aside0.mk hc0
  clear hr0 hc0
  have HR1 := Aside0.mk hr1
  have HC1 := Aside0.mk hc1
  clear hr1 hc1
  have HB := Aside0.mk (Below.refl w.heap.size w)
  have H : ((ambrylaw02_few.f l0).bind fun t248 => (if t248 = true then ((ambrylaw02_few.f l1).bind fun t249 => (ambrylaw02_TupleRanges.j0 k l0 l1 (!t249))) else (ambrylaw02_TupleRanges.j0 k l0 l1 true))) = some r := h
  clear h
  have HC3 := Aside0.mk H
  clear H
  go_enter Try.func7, Try.ntmps7
  go_upto_region 1 with (fail)
  go_cut [17] (fun v17 wc => ∃ (kq : Nat) (x17_2 : Bool), v17 = .bool x17_2 ∧ Aside0 (ambrylaw02_TupleRanges.j0 kq l0 l1 x17_2 = some r) ∧ Aside0 (kq ≤ k) ∧ Aside0 (Below w.heap.size w wc))
  case first =>
    have H := HC3.out
    clear HC3
    replace H := Option.bind_eq_some_iff.mp H
    obtain ⟨t248, A40, H⟩ := H
    replace H : (if t248 = true then ((ambrylaw02_few.f l1).bind fun t249 => (ambrylaw02_TupleRanges.j0 k l0 l1 (!t249))) else (ambrylaw02_TupleRanges.j0 k l0 l1 true)) = some r := H
    have A4 := Aside0.mk A40
    clear A40
    by_cases c5 : t248 = true
    · subst c5
      have H1 : ((ambrylaw02_few.f l1).bind fun t249 => (ambrylaw02_TupleRanges.j0 k l0 l1 (!t249))) = some r := by rw [if_pos rfl] at H; exact H
      clear H
      have H := H1
      clear H1
      replace H := Option.bind_eq_some_iff.mp H
      obtain ⟨t249, A60, H⟩ := H
      replace H : (ambrylaw02_TupleRanges.j0 k l0 l1 (!t249)) = some r := H
      have A6 := Aside0.mk A60
      clear A60
      have H' := Aside0.mk H
      clear H
      go_wp2_with (first | ((with_reducible refine gate_callee (f := 13) rfl ?_); refine goesL_ (some 11) rfl rfl Try.func13 (by kernel_rfl) rfl #[.slice A0 l0.length c0] rfl (by (try simp only [List.map_toArray, List.map_cons, List.map_nil]); first | done | rfl | (simp only [List.length_drop, List.length_take]; rfl)) ?_; (with_reducible refine (ambrylaw02_few.calls _ _ l0 true _ ?side1 ?side2 A4.out).mono ?_); (case side1 => repeat (first | exact (Kd.C_below HR0.out HB.out) | (with_reducible refine Kd.C_alloc ?_ _) | (with_reducible refine Kd.C_drewN ?_ _) | (with_reducible refine Kd.C_drew ?_))); (case side2 => exact HC0.out); rintro e w' ⟨rfl, ⟨nd, rfl⟩⟩; refine ⟨_, rfl, ?_⟩) | (go_at_call 13; (with_reducible refine (ambrylaw02_few.calls _ _ l1 t249 _ ?side1 ?side2 A6.out).mono ?_); (case side1 => repeat (first | exact (Kd.C_below HR1.out (by repeat (first | (with_reducible first | exact HB.out | apply below_alloc | apply pw_below_drewN | apply below_drew1) | exact HB.out))) | (with_reducible refine Kd.C_alloc ?_ _) | (with_reducible refine Kd.C_drewN ?_ _) | (with_reducible refine Kd.C_drew ?_))); (case side2 => exact HC1.out); rintro e w' ⟨rfl, ⟨nd, rfl⟩⟩))
      go_meet
      case rel => exact ⟨_, (!t249), (by first | rfl | (simp; done) | (simp [*]; done)), H', ⟨by first | omega | exact Nat.le_refl _⟩, ⟨by repeat (first | (with_reducible first | exact HB.out | apply below_alloc | apply pw_below_drewN | apply below_drew1) | exact HB.out)⟩⟩
    · replace c5 := Bool.eq_false_iff.mpr c5
      subst c5
      have H1 : (ambrylaw02_TupleRanges.j0 k l0 l1 true) = some r := by rw [if_neg (show ¬ (false = true) by decide)] at H; exact H
      clear H
      have H := H1
      clear H1
      have H' := Aside0.mk H
      clear H
      go_wp2_with (first | ((with_reducible refine gate_callee (f := 13) rfl ?_); refine goesL_ (some 11) rfl rfl Try.func13 (by kernel_rfl) rfl #[.slice A0 l0.length c0] rfl (by (try simp only [List.map_toArray, List.map_cons, List.map_nil]); first | done | rfl | (simp only [List.length_drop, List.length_take]; rfl)) ?_; (with_reducible refine (ambrylaw02_few.calls _ _ l0 false _ ?side1 ?side2 A4.out).mono ?_); (case side1 => repeat (first | exact (Kd.C_below HR0.out HB.out) | (with_reducible refine Kd.C_alloc ?_ _) | (with_reducible refine Kd.C_drewN ?_ _) | (with_reducible refine Kd.C_drew ?_))); (case side2 => exact HC0.out); rintro e w' ⟨rfl, ⟨nd, rfl⟩⟩; refine ⟨_, rfl, ?_⟩))
      go_meet
      case rel => exact ⟨_, (true), (by first | rfl | (simp; done) | (simp [*]; done)), H', ⟨by first | omega | exact Nat.le_refl _⟩, ⟨by repeat (first | (with_reducible first | exact HB.out | apply below_alloc | apply pw_below_drewN | apply below_drew1) | exact HB.out)⟩⟩
  case rest =>
    clear HC3
    try clear c1
    try clear p2
    try clear c5
    obtain ⟨kq, x17_2, rfl, HA, HJ2, HB⟩ := hcut
    cases kq with
    | zero => exact absurd HA.out (by simp [ambrylaw02_TupleRanges.j0])
    | succ kj2 =>
      have H := HA.out
      clear HA
      simp only [ambrylaw02_TupleRanges.j0] at H
      by_cases c7 : x17_2 = true
      · subst c7
        have H1 : ((ambrylaw02_lives.f kj2).bind fun t250 => (some t250)) = some r := by rw [if_pos rfl] at H; exact H
        clear H
        have H := H1
        clear H1
        replace H := Option.bind_eq_some_iff.mp H
        obtain ⟨t250, A80, H⟩ := H
        replace H : (some t250) = some r := H
        have A8 := Aside0.mk A80
        clear A80
        obtain rfl := Option.some.inj H
        go_wp2_with (first | ((with_reducible refine gate_callee (f := 10) rfl ?_); refine goesL_ (some 18) rfl rfl Try.func10 (by kernel_rfl) rfl #[] rfl (by (try simp only [List.map_toArray, List.map_cons, List.map_nil]); first | done | rfl | (simp only [List.length_drop, List.length_take]; rfl)) ?_; (with_reducible refine (ambrylaw02_lives.calls kj2  t250 _ A8.out).mono ?_); rintro e w9 ⟨rfl, hb⟩; refine ⟨_, rfl, ?_⟩; have n0_ := Aside0.mk (below_step (by repeat (first | (with_reducible first | exact HB.out | apply below_alloc | apply pw_below_drewN | apply below_drew1) | exact HB.out)) hb); clear HB; have HB := n0_; clear n0_; (try clear hb); (try clear hb2); (try clear hk); (try clear hi)))
        go_ret
        exact ⟨by first | rfl | (simp [errW_none, errW_some] <;> rfl) | (simp [*, errW_none, errW_some] <;> rfl), by repeat (first | (with_reducible first | exact HB.out | apply below_alloc | apply pw_below_drewN | apply below_drew1) | exact HB.out)⟩
      · replace c7 := Bool.eq_false_iff.mpr c7
        subst c7
        have H1 : ((tuple_Encode.f kj2 l0).bind fun bt251 => ((tuple_Encode.f kj2 l1).bind fun bt253 => (if bt251.2 = 0 then (ambrylaw02_TupleRanges.j1 kj2 l0 l1 bt251.1 bt253.1 (bt253.2 != 0)) else (ambrylaw02_TupleRanges.j1 kj2 l0 l1 bt251.1 bt253.1 true)))) = some r := by rw [if_neg (show ¬ (false = true) by decide)] at H; exact H
        clear H
        have H := H1
        clear H1
        replace H := Option.bind_eq_some_iff.mp H
        obtain ⟨⟨t251, t252⟩, A100, H⟩ := H
        replace H : ((tuple_Encode.f kj2 l1).bind fun bt253 => (if t252 = 0 then (ambrylaw02_TupleRanges.j1 kj2 l0 l1 t251 bt253.1 (bt253.2 != 0)) else (ambrylaw02_TupleRanges.j1 kj2 l0 l1 t251 bt253.1 true))) = some r := H
        have A10 := Aside0.mk A100
        clear A100
        replace H := Option.bind_eq_some_iff.mp H
        obtain ⟨⟨t253, t254⟩, A110, H⟩ := H
        replace H : (if t252 = 0 then (ambrylaw02_TupleRanges.j1 kj2 l0 l1 t251 t253 (t254 != 0)) else (ambrylaw02_TupleRanges.j1 kj2 l0 l1 t251 t253 true)) = some r := H
        have A11 := Aside0.mk A110
        clear A110
        have HC12 := Aside0.mk H
        clear H
        go_upto_region 5 with (first | ((with_reducible refine gate_callee (f := 14) rfl ?_); refine goesL_ (some 21) rfl rfl Try.func14 (by kernel_rfl) rfl #[.slice A0 l0.length c0] rfl (by (try simp only [List.map_toArray, List.map_cons, List.map_nil]); first | done | rfl | (simp only [List.length_drop, List.length_take]; rfl)) ?_; (with_reducible refine (tuple_Encode.calls kj2 _ _ l0 t251 t252 _ ?side1 ?side2 A10.out).mono ?_); (case side1 => repeat (first | exact (Kd.C_below HR0.out HB.out) | (with_reducible refine Kd.C_alloc ?_ _) | (with_reducible refine Kd.C_drewN ?_ _) | (with_reducible refine Kd.C_drew ?_))); (case side2 => exact HC0.out); rintro e w13 ⟨rfl, hb⟩; refine ⟨_, rfl, ?_⟩; have n0_ := Aside0.mk (below_step (by repeat (first | (with_reducible first | exact HB.out | apply below_alloc | apply pw_below_drewN | apply below_drew1) | exact HB.out)) hb); clear HB; have HB := n0_; clear n0_; (try clear hb); (try clear hb2); (try clear hk); (try clear hi)) | ((with_reducible refine gate_callee (f := 14) rfl ?_); refine goesL_ (some 26) rfl rfl Try.func14 (by kernel_rfl) rfl #[.slice A1 l1.length c1] rfl (by (try simp only [List.map_toArray, List.map_cons, List.map_nil]); first | done | rfl | (simp only [List.length_drop, List.length_take]; rfl)) ?_; (with_reducible refine (tuple_Encode.calls kj2 _ _ l1 t253 t254 _ ?side1 ?side2 A11.out).mono ?_); (case side1 => repeat (first | exact (Kd.C_below HR1.out HB.out) | (with_reducible refine Kd.C_alloc ?_ _) | (with_reducible refine Kd.C_drewN ?_ _) | (with_reducible refine Kd.C_drew ?_))); (case side2 => exact HC1.out); rintro e w14 ⟨rfl, hb⟩; refine ⟨_, rfl, ?_⟩; have n0_ := Aside0.mk (below_step (by repeat (first | (with_reducible first | exact HB.out | apply below_alloc | apply pw_below_drewN | apply below_drew1) | exact HB.out)) hb); clear HB; have HB := n0_; clear n0_; (try clear hb); (try clear hb2); (try clear hk); (try clear hi)))
        (try simp only [Act.put, List.setIfInBounds_toArray, List.set_cons_zero, List.set_cons_succ])
        go_cut [34] (fun v34 wc => ∃ (kq : Nat) (x34_11 : Bool), v34 = .bool x34_11 ∧ Aside0 (ambrylaw02_TupleRanges.j1 kq l0 l1 t251 t253 x34_11 = some r) ∧ Aside0 (kq ≤ kj2) ∧ Aside0 (Below w.heap.size w wc))
        case first =>
          have H := HC12.out
          clear HC12
          by_cases c15 : t252 = 0
          · rw [if_pos c15] at H
            have c15b0 : (t252 == 0) = true := beq_iff_eq.mpr c15
            have c15b1 : (t252 != 0) = false := bne_eq_false_iff_eq.mpr c15
            clear c15
            (first | rw [c15b0] | (simp only [i64_w, i32_w]; rw [c15b0]) | skip)
            have H' := Aside0.mk H
            clear H
            go_wp2
            go_meet
            case rel => exact ⟨_, ((t254 != 0)), (by first | rfl | (simp; done) | (simp [*]; done)), H', ⟨by have := HJ2.out; first | omega | exact Nat.le_refl _⟩, ⟨by repeat (first | (with_reducible first | exact HB.out | apply below_alloc | apply pw_below_drewN | apply below_drew1) | exact HB.out)⟩⟩
          · rw [if_neg c15] at H
            have c15b0 : (t252 == 0) = false := beq_eq_false_iff_ne.mpr c15
            have c15b1 : (t252 != 0) = true := bne_iff_ne.mpr c15
            (first | rw [c15b0] | (simp only [i64_w, i32_w]; rw [c15b0]) | skip)
            have H' := Aside0.mk H
            clear H
            go_wp2
            go_meet
            case rel => exact ⟨_, (true), (by first | rfl | (simp; done) | (simp [*]; done)), H', ⟨by have := HJ2.out; first | omega | exact Nat.le_refl _⟩, ⟨by repeat (first | (with_reducible first | exact HB.out | apply below_alloc | apply pw_below_drewN | apply below_drew1) | exact HB.out)⟩⟩
        case rest =>
          clear HC12
          try clear c1
          try clear p2
          try clear c5
          try clear c7
          try clear c10
          try clear c13
          try clear c14
          try clear c15
          try clear c15b0
          try clear c15b1
          try clear p2
          obtain ⟨kq, x34_11, rfl, HA, HJ11, HB⟩ := hcut
          cases kq with
          | zero => exact absurd HA.out (by simp [ambrylaw02_TupleRanges.j1])
          | succ kj11 =>
            have H := HA.out
            clear HA
            simp only [ambrylaw02_TupleRanges.j1] at H
            by_cases c16 : x34_11 = true
            · subst c16
              have H1 : ((ambrylaw02_lives.f kj11).bind fun t255 => (some t255)) = some r := by rw [if_pos rfl] at H; exact H
              clear H
              have H := H1
              clear H1
              replace H := Option.bind_eq_some_iff.mp H
              obtain ⟨t255, A170, H⟩ := H
              replace H : (some t255) = some r := H
              have A17 := Aside0.mk A170
              clear A170
              obtain rfl := Option.some.inj H
              go_wp2_with (first | ((with_reducible refine gate_callee (f := 10) rfl ?_); refine goesL_ (some 35) rfl rfl Try.func10 (by kernel_rfl) rfl #[] rfl (by (try simp only [List.map_toArray, List.map_cons, List.map_nil]); first | done | rfl | (simp only [List.length_drop, List.length_take]; rfl)) ?_; (with_reducible refine (ambrylaw02_lives.calls kj11  t255 _ A17.out).mono ?_); rintro e w18 ⟨rfl, hb⟩; refine ⟨_, rfl, ?_⟩; have n0_ := Aside0.mk (below_step (by repeat (first | (with_reducible first | exact HB.out | apply below_alloc | apply pw_below_drewN | apply below_drew1) | exact HB.out)) hb); clear HB; have HB := n0_; clear n0_; (try clear hb); (try clear hb2); (try clear hk); (try clear hi)))
              go_ret
              exact ⟨by first | rfl | (simp [errW_none, errW_some] <;> rfl) | (simp [*, errW_none, errW_some] <;> rfl), by repeat (first | (with_reducible first | exact HB.out | apply below_alloc | apply pw_below_drewN | apply below_drew1) | exact HB.out)⟩
            · replace c16 := Bool.eq_false_iff.mpr c16
              subst c16
              have H1 : (if ((Op.bytesLess t253.toList t251.toList) = true) then ((ambrylaw02_begins.f kj11 l0 l1).bind fun t256 => (if (false == t256) = true then ((ambrylaw02_lives.f kj11).bind fun t257 => (some t257)) else (some false))) else ((tuple_Behind.f t251).bind fun t258 => ((ambrylaw02_begins.f kj11 l0 l1).bind fun t259 => (if ((Op.bytesLess t253.toList t258.toList) == t259) = true then ((ambrylaw02_lives.f kj11).bind fun t260 => (some t260)) else (some false))))) = some r := by rw [if_neg (show ¬ (false = true) by decide)] at H; exact H
              clear H
              have H := H1
              clear H1
              by_cases c19 : ((Op.bytesLess t253.toList t251.toList) = true)
              · rw [if_pos c19] at H
                have c19b0 : (Op.bytesLess t253.toList t251.toList) = true := c19
                clear c19
                replace H := Option.bind_eq_some_iff.mp H
                obtain ⟨t256, A200, H⟩ := H
                replace H : (if (false == t256) = true then ((ambrylaw02_lives.f kj11).bind fun t257 => (some t257)) else (some false)) = some r := H
                have A20 := Aside0.mk A200
                clear A200
                by_cases c21 : (false == t256) = true
                · rw [if_pos c21] at H
                  have c21b0 : (false == t256) = true := c21
                  (try (have c21b1 : decide (false = t256) = true := by simpa using c21))
                  (try (have c21b2 : (false == t256) = true := by simpa using c21))
                  clear c21
                  replace H := Option.bind_eq_some_iff.mp H
                  obtain ⟨t257, A220, H⟩ := H
                  replace H : (some t257) = some r := H
                  have A22 := Aside0.mk A220
                  clear A220
                  obtain rfl := Option.some.inj H
                  go_wp2_with (first | ((with_reducible refine gate_callee (f := 19) rfl ?_); refine goesL_ (some 48) rfl rfl Try.func19 (by kernel_rfl) rfl #[.slice A0 l0.length c0, .slice A1 l1.length c1] rfl (by (try simp only [List.map_toArray, List.map_cons, List.map_nil]); first | done | rfl | (simp only [List.length_drop, List.length_take]; rfl)) ?_; (with_reducible refine (ambrylaw02_begins.calls kj11 _ _ l0 _ _ l1 t256 _ ?side1 ?side2 ?side3 ?side4 A20.out).mono ?_); (case side1 => repeat (first | exact (Kd.C_below HR0.out HB.out) | (with_reducible refine Kd.C_alloc ?_ _) | (with_reducible refine Kd.C_drewN ?_ _) | (with_reducible refine Kd.C_drew ?_))); (case side2 => exact HC0.out); (case side3 => repeat (first | exact (Kd.C_below HR1.out HB.out) | (with_reducible refine Kd.C_alloc ?_ _) | (with_reducible refine Kd.C_drewN ?_ _) | (with_reducible refine Kd.C_drew ?_))); (case side4 => exact HC1.out); rintro e w' ⟨rfl, ⟨nd, rfl⟩⟩; refine ⟨_, rfl, ?_⟩) | (go_at_call 10; (with_reducible refine (ambrylaw02_lives.calls kj11  t257 _ A22.out).mono ?_); rintro e w23 ⟨rfl, hb⟩; have n0_ := Aside0.mk (below_step (by repeat (first | (with_reducible first | exact HB.out | apply below_alloc | apply pw_below_drewN | apply below_drew1) | exact HB.out)) hb); clear HB; have HB := n0_; clear n0_; (try clear hb); (try clear hb2); (try clear hk); (try clear hi)))
                  go_ret
                  exact ⟨by first | rfl | (simp [errW_none, errW_some] <;> rfl) | (simp [*, errW_none, errW_some] <;> rfl), by repeat (first | (with_reducible first | exact HB.out | apply below_alloc | apply pw_below_drewN | apply below_drew1) | exact HB.out)⟩
                · rw [if_neg c21] at H
                  have c21b0 : (false == t256) = false := by simpa using c21
                  (try (have c21b1 : decide (false = t256) = false := by simpa using c21))
                  (try (have c21b2 : (false == t256) = false := by simpa using c21))
                  (try (have c21b3 : ¬ (false = t256) := by simpa using c21))
                  clear c21
                  obtain rfl := Option.some.inj H
                  go_wp2_with (first | ((with_reducible refine gate_callee (f := 19) rfl ?_); refine goesL_ (some 48) rfl rfl Try.func19 (by kernel_rfl) rfl #[.slice A0 l0.length c0, .slice A1 l1.length c1] rfl (by (try simp only [List.map_toArray, List.map_cons, List.map_nil]); first | done | rfl | (simp only [List.length_drop, List.length_take]; rfl)) ?_; (with_reducible refine (ambrylaw02_begins.calls kj11 _ _ l0 _ _ l1 t256 _ ?side1 ?side2 ?side3 ?side4 A20.out).mono ?_); (case side1 => repeat (first | exact (Kd.C_below HR0.out HB.out) | (with_reducible refine Kd.C_alloc ?_ _) | (with_reducible refine Kd.C_drewN ?_ _) | (with_reducible refine Kd.C_drew ?_))); (case side2 => exact HC0.out); (case side3 => repeat (first | exact (Kd.C_below HR1.out HB.out) | (with_reducible refine Kd.C_alloc ?_ _) | (with_reducible refine Kd.C_drewN ?_ _) | (with_reducible refine Kd.C_drew ?_))); (case side4 => exact HC1.out); rintro e w' ⟨rfl, ⟨nd, rfl⟩⟩; refine ⟨_, rfl, ?_⟩))
                  go_ret
                  exact ⟨by first | rfl | (simp [errW_none, errW_some] <;> rfl) | (simp [*, errW_none, errW_some] <;> rfl), by repeat (first | (with_reducible first | exact HB.out | apply below_alloc | apply pw_below_drewN | apply below_drew1) | exact HB.out)⟩
              · rw [if_neg c19] at H
                have c19b0 : (Op.bytesLess t253.toList t251.toList) = false := by simpa using c19
                clear c19
                replace H := Option.bind_eq_some_iff.mp H
                obtain ⟨t258, A240, H⟩ := H
                replace H : ((ambrylaw02_begins.f kj11 l0 l1).bind fun t259 => (if ((Op.bytesLess t253.toList t258.toList) == t259) = true then ((ambrylaw02_lives.f kj11).bind fun t260 => (some t260)) else (some false))) = some r := H
                have A24 := Aside0.mk A240
                clear A240
                replace H := Option.bind_eq_some_iff.mp H
                obtain ⟨t259, A250, H⟩ := H
                replace H : (if ((Op.bytesLess t253.toList t258.toList) == t259) = true then ((ambrylaw02_lives.f kj11).bind fun t260 => (some t260)) else (some false)) = some r := H
                have A25 := Aside0.mk A250
                clear A250
                by_cases c26 : ((Op.bytesLess t253.toList t258.toList) == t259) = true
                · rw [if_pos c26] at H
                  have c26b0 : ((Op.bytesLess t253.toList t258.toList) == t259) = true := c26
                  (try (have c26b1 : decide ((Op.bytesLess t253.toList t258.toList) = t259) = true := by simpa using c26))
                  (try (have c26b2 : ((Op.bytesLess t253.toList t258.toList) == t259) = true := by simpa using c26))
                  clear c26
                  replace H := Option.bind_eq_some_iff.mp H
                  obtain ⟨t260, A270, H⟩ := H
                  replace H : (some t260) = some r := H
                  have A27 := Aside0.mk A270
                  clear A270
                  obtain rfl := Option.some.inj H
                  go_wp2_with (first | (go_at_call 18; (with_reducible refine (tuple_Behind.calls t251 t258 _ A24.out).mono ?_); rintro e w' ⟨rfl, ⟨nd, rfl⟩⟩) | ((with_reducible refine gate_callee (f := 19) rfl ?_); refine goesL_ (some 48) rfl rfl Try.func19 (by kernel_rfl) rfl #[.slice A0 l0.length c0, .slice A1 l1.length c1] rfl (by (try simp only [List.map_toArray, List.map_cons, List.map_nil]); first | done | rfl | (simp only [List.length_drop, List.length_take]; rfl)) ?_; (with_reducible refine (ambrylaw02_begins.calls kj11 _ _ l0 _ _ l1 t259 _ ?side1 ?side2 ?side3 ?side4 A25.out).mono ?_); (case side1 => repeat (first | exact (Kd.C_below HR0.out (by repeat (first | (with_reducible first | exact HB.out | apply below_alloc | apply pw_below_drewN | apply below_drew1) | exact HB.out))) | (with_reducible refine Kd.C_alloc ?_ _) | (with_reducible refine Kd.C_drewN ?_ _) | (with_reducible refine Kd.C_drew ?_))); (case side2 => exact HC0.out); (case side3 => repeat (first | exact (Kd.C_below HR1.out (by repeat (first | (with_reducible first | exact HB.out | apply below_alloc | apply pw_below_drewN | apply below_drew1) | exact HB.out))) | (with_reducible refine Kd.C_alloc ?_ _) | (with_reducible refine Kd.C_drewN ?_ _) | (with_reducible refine Kd.C_drew ?_))); (case side4 => exact HC1.out); rintro e w' ⟨rfl, ⟨nd, rfl⟩⟩; refine ⟨_, rfl, ?_⟩) | (go_at_call 10; (with_reducible refine (ambrylaw02_lives.calls kj11  t260 _ A27.out).mono ?_); rintro e w28 ⟨rfl, hb⟩; have n0_ := Aside0.mk (below_step (by repeat (first | (with_reducible first | exact HB.out | apply below_alloc | apply pw_below_drewN | apply below_drew1) | exact HB.out)) hb); clear HB; have HB := n0_; clear n0_; (try clear hb); (try clear hb2); (try clear hk); (try clear hi)))
                  go_ret
                  exact ⟨by first | rfl | (simp [errW_none, errW_some] <;> rfl) | (simp [*, errW_none, errW_some] <;> rfl), by repeat (first | (with_reducible first | exact HB.out | apply below_alloc | apply pw_below_drewN | apply below_drew1) | exact HB.out)⟩
                · rw [if_neg c26] at H
                  have c26b0 : ((Op.bytesLess t253.toList t258.toList) == t259) = false := by simpa using c26
                  (try (have c26b1 : decide ((Op.bytesLess t253.toList t258.toList) = t259) = false := by simpa using c26))
                  (try (have c26b2 : ((Op.bytesLess t253.toList t258.toList) == t259) = false := by simpa using c26))
                  (try (have c26b3 : ¬ ((Op.bytesLess t253.toList t258.toList) = t259) := by simpa using c26))
                  clear c26
                  obtain rfl := Option.some.inj H
                  go_wp2_with (first | (go_at_call 18; (with_reducible refine (tuple_Behind.calls t251 t258 _ A24.out).mono ?_); rintro e w' ⟨rfl, ⟨nd, rfl⟩⟩) | ((with_reducible refine gate_callee (f := 19) rfl ?_); refine goesL_ (some 48) rfl rfl Try.func19 (by kernel_rfl) rfl #[.slice A0 l0.length c0, .slice A1 l1.length c1] rfl (by (try simp only [List.map_toArray, List.map_cons, List.map_nil]); first | done | rfl | (simp only [List.length_drop, List.length_take]; rfl)) ?_; (with_reducible refine (ambrylaw02_begins.calls kj11 _ _ l0 _ _ l1 t259 _ ?side1 ?side2 ?side3 ?side4 A25.out).mono ?_); (case side1 => repeat (first | exact (Kd.C_below HR0.out (by repeat (first | (with_reducible first | exact HB.out | apply below_alloc | apply pw_below_drewN | apply below_drew1) | exact HB.out))) | (with_reducible refine Kd.C_alloc ?_ _) | (with_reducible refine Kd.C_drewN ?_ _) | (with_reducible refine Kd.C_drew ?_))); (case side2 => exact HC0.out); (case side3 => repeat (first | exact (Kd.C_below HR1.out (by repeat (first | (with_reducible first | exact HB.out | apply below_alloc | apply pw_below_drewN | apply below_drew1) | exact HB.out))) | (with_reducible refine Kd.C_alloc ?_ _) | (with_reducible refine Kd.C_drewN ?_ _) | (with_reducible refine Kd.C_drew ?_))); (case side4 => exact HC1.out); rintro e w' ⟨rfl, ⟨nd, rfl⟩⟩; refine ⟨_, rfl, ?_⟩))
                  go_ret
                  exact ⟨by first | rfl | (simp [errW_none, errW_some] <;> rfl) | (simp [*, errW_none, errW_some] <;> rfl), by repeat (first | (with_reducible first | exact HB.out | apply below_alloc | apply pw_below_drewN | apply below_drew1) | exact HB.out)⟩

/-! ### tuple_read: function 35, by hand -/
def rdStep (m u c : Int) : Int := Go.bits .or .u64 (IntKind.u64.wrap (u * 256)) (IntKind.u64.wrap (Go.bits .xor .u8 c m))
def rdAll (m : Int) (l : List Int) : Int := l.foldl (rdStep m) 0
def tuple_read.f (a0 : ByteArray) (a1 : Int) : Option Int := if a0.size ≤ 9223372036854775807 then some (wrap64 (Go.bits .xor .u64 (rdAll a1 (bytesOf a0)) 9223372036854775808)) else none
set_option maxHeartbeats 1600000 in
set_option maxRecDepth 100000 in
theorem tuple_read.calls (a0 : ByteArray) (a1 : Int) (r : Int) (w : World) (h : tuple_read.f a0 a1 = some r) :
    Calls Try.prog 35 #[.string a0, .int .u8 a1] w fun e w' => e = .returned (.int .i64 r) ∧ Below w.heap.size w w' := by
  unfold tuple_read.f at h
  by_cases hs : a0.size ≤ 9223372036854775807
  case neg => rw [if_neg hs] at h; exact absurd h (by simp)
  rw [if_pos hs] at h
  obtain rfl := Option.some.inj h
  clear h
  have kb := fun W => print_bytes (P := Try.prog) 9 54 5 Try.underlying9 Try.underlying54 Try.underlying5 a0 W
  go_enter Try.func35, Try.ntmps35
  go_wp2
  obtain ⟨w3, HW3⟩ : ∃ w3, Aside0 (Lib.bytesWorld w 5 a0 = w3) := ⟨_, ⟨rfl⟩⟩
  obtain ⟨g2, HG2⟩ : ∃ g2, Aside0 (w.heap.size = g2) := ⟨_, ⟨rfl⟩⟩
  rw [HW3.out, HG2.out]
  obtain ⟨cp, HCP⟩ : ∃ cp, Aside0 (grownCap w a0.size 0 5 = cp) := ⟨_, ⟨rfl⟩⟩
  rw [HCP.out]
  have HB3 : Aside0 (Below w.heap.size w w3) := ⟨by rw [← HW3.out]; exact bytes_below (Below.refl _ _) (Nat.le_refl _) 5 a0⟩
  have HC3 : Aside0 (CellsG a0 g2 w3) := ⟨by rw [← HW3.out, ← HG2.out]; exact ⟨by rw [Lib.bytesWorld_size]; omega, fun j hj => bytes_cell w a0 j hj⟩⟩
  go_loopw [5, 11] (fun vu vi wr => ∃ (i : Nat) (u : Int), i ≤ a0.size ∧ vi = .int .i64 i ∧ vu = .int .u64 u ∧ Aside0 (u = rdAll a1 ((bytesOf a0).take i)) ∧ Aside0 (CellsG a0 g2 wr) ∧ Aside0 (Below w.heap.size w wr)) (fun _ vi _ => a0.size - (intOf vi).toNat)
  case atStart => exact ⟨0, 0, Nat.zero_le _, rfl, rfl, ⟨rfl⟩, HC3, HB3⟩
  case round =>
    obtain ⟨i, u, hi, rfl, rfl, HU, HC4, HB4⟩ := hrel
    by_cases hlt : i < a0.size
    · have hcell := HC4.out.2 i hlt
      have HS := Aside0.mk (bytes_take a0 i hlt)
      go_wp2
      exact ⟨⟨i + 1, _, by omega, by go_num, rfl, ⟨by rw [HS.out, HU.out]; simp only [rdAll, List.foldl_append, List.foldl_cons, List.foldl_nil, rdStep]⟩, HC4, HB4⟩, by simp [intOf]; omega⟩
    · have hi' : i = a0.size := by omega
      subst hi'
      have HT : Aside0 ((bytesOf a0).take a0.size = bytesOf a0) := ⟨by rw [← bytesOf_length a0, List.take_length]⟩
      have HU2 := Aside0.mk (HU.out.trans (by rw [HT.out]))
      go_wp2
      go_ret
      exact ⟨by rw [← HU2.out]; first | done | rfl, HB4.out⟩
/-- The text with which bytes go on, and how many bytes it has with its end; none: there is no such end. -/
def scanT : List Int → Option (List Int × Nat)
  | [] => none
  | [_] => none
  | c :: d :: m => if c = 0 then (if d = 1 then some ([], 2) else if d = 255 then (scanT m).map (fun p => (0 :: p.1, p.2 + 2)) else none) else (scanT (d :: m)).map (fun p => (c :: p.1, p.2 + 1))
theorem scanT_plain (c : Int) (l : List Int) (h : c ≠ 0) : scanT (c :: l) = (scanT l).map (fun p => (c :: p.1, p.2 + 1)) := by
  cases l with
  | nil => rfl
  | cons d m => rw [scanT, if_neg h]
theorem bytes_drop (s : ByteArray) (i : Nat) (h : i < s.size) : (bytesOf s).drop i = bt s (i : Int) :: (bytesOf s).drop (i + 1) := by
  have hl : i < (bytesOf s).length := by rw [bytesOf_length]; exact h
  have h1 := rd_bytesOf s (i : Int)
  rw [List.drop_eq_getElem_cons hl, ← h1]
  simp [rd, List.getD_eq_getElem?_getD, List.getElem?_eq_getElem hl]
theorem bytes_drop_all (s : ByteArray) : (bytesOf s).drop s.size = [] := by rw [← bytesOf_length s, List.drop_length]
/-- Behind i bytes of the text's: what has been collected, and what all comes to. -/
def ScanAt (s : ByteArray) (i : Nat) (t : List Int) : Prop := scanT ((bytesOf s).drop 1) = (scanT ((bytesOf s).drop i)).map (fun p => (t ++ p.1, p.2 + (i - 1)))
theorem ScanAt.start (s : ByteArray) : ScanAt s 1 [] := by simp [ScanAt]
theorem ScanAt.plain {s : ByteArray} {i : Nat} {t : List Int} (h : ScanAt s i t) (h1 : 1 ≤ i) (hi : i < s.size) (hc : bt s (i : Int) ≠ 0) : ScanAt s (i + 1) (t ++ [bt s (i : Int)]) := by
  unfold ScanAt at h ⊢
  rw [h, bytes_drop s i hi, scanT_plain _ _ hc, Option.map_map]
  congr 1
  funext p
  simp
  omega
theorem ScanAt.esc {s : ByteArray} {i : Nat} {t : List Int} (h : ScanAt s i t) (h1 : 1 ≤ i) (hi : i + 1 < s.size) (hc : bt s (i : Int) = 0) (hd : bt s ((i + 1 : Nat) : Int) = 255) : ScanAt s (i + 2) (t ++ [0]) := by
  unfold ScanAt at h ⊢
  rw [h, bytes_drop s i (by omega), bytes_drop s (i + 1) hi, hc, hd, scanT, if_pos rfl, if_neg (by decide), if_pos rfl, Option.map_map]
  congr 1
  funext p
  simp
  omega
theorem ScanAt.stop {s : ByteArray} {i : Nat} {t : List Int} (h : ScanAt s i t) (hi : i + 1 < s.size) (hc : bt s (i : Int) = 0) (hd : bt s ((i + 1 : Nat) : Int) = 1) : scanT ((bytesOf s).drop 1) = some (t, 2 + (i - 1)) := by
  unfold ScanAt at h
  rw [h, bytes_drop s i (by omega), bytes_drop s (i + 1) hi, hc, hd, scanT, if_pos rfl, if_pos rfl]
  simp
theorem ScanAt.bad {s : ByteArray} {i : Nat} {t : List Int} (h : ScanAt s i t) (hi : i + 1 < s.size) (hc : bt s (i : Int) = 0) (hd : bt s ((i + 1 : Nat) : Int) ≠ 1) (hd2 : bt s ((i + 1 : Nat) : Int) ≠ 255) : scanT ((bytesOf s).drop 1) = none := by
  unfold ScanAt at h
  rw [h, bytes_drop s i (by omega), bytes_drop s (i + 1) hi, hc, scanT, if_pos rfl, if_neg hd, if_neg hd2]
  rfl
theorem ScanAt.last {s : ByteArray} {i : Nat} {t : List Int} (h : ScanAt s i t) (hi : i + 1 = s.size) (hc : bt s (i : Int) = 0) : scanT ((bytesOf s).drop 1) = none := by
  unfold ScanAt at h
  rw [h, bytes_drop s i (by omega), hi, bytes_drop_all, hc]
  rfl
theorem ScanAt.over {s : ByteArray} {t : List Int} (h : ScanAt s s.size t) : scanT ((bytesOf s).drop 1) = none := by
  unfold ScanAt at h
  rw [h, bytes_drop_all]
  rfl

end Go.Proofs.Ythcfkilofgfgpaa.A
