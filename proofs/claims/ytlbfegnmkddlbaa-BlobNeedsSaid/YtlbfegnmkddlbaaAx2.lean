-- Written for this claim by a program of the session: the kit's printer with hand-written contracts put in. Lean checks it.
import Derived.Test.YtlbfegnmkddlbaaAx0
import Derived.Test.YtlbfegnmkddlbaaAx1
namespace Go.Proofs.Ytlbfegnmkddlbaa.A
open Go.RowKit Go.Proofs.YtlbfegnmkddlbaaW.PrintWords Go.Proofs.YtlbfegnmkddlbaaW.PrintLast Go.Proofs.YtlbfegnmkddlbaaW.PrintMore
attribute [local go_sem] max2_int min2_int max_two min_two max_three min_three max_four min_four   -- for this text's walks alone
set_option linter.unusedVariables false
set_option linter.unusedSimpArgs false

/-! ### ambryref19_Need: function 10 -/
def ambryref19_Need.j0 : Nat → Int → Int → Int → Bool → Option (Int × Int × Int)
  | 0, _, _, _, _ => none
  | k + 1, x0, x1, x2, x29 => if x29 = true then (some (0, 0, 2)) else (if (mn x2 (wrap64 (x0 - x1))) = 0 then (some (0, 0, 0)) else (some (wrap64 (Int.tdiv x1 160), wrap64 ((wrap64 ((wrap64 (Int.tdiv (wrap64 ((wrap64 (x1 + (mn x2 (wrap64 (x0 - x1))))) - 1)) 160)) - (wrap64 (Int.tdiv x1 160)))) + 1), 0)))
def ambryref19_Need.f (k : Nat) (a0 : Int) (a1 : Int) (a2 : Int) : Option (Int × Int × Int) := if a0 < 0 then (ambryref19_Need.j0 k a0 a1 a2 true) else (if a0 > 2560 then (ambryref19_Need.j0 k a0 a1 a2 true) else (if a1 < 0 then (ambryref19_Need.j0 k a0 a1 a2 true) else (if a1 > a0 then (ambryref19_Need.j0 k a0 a1 a2 true) else (ambryref19_Need.j0 k a0 a1 a2 (decide (a2 < 0))))))
theorem ambryref19_Need.mono_l : ∀ k, (∀ y0 y1 y2 y3, LeO (ambryref19_Need.j0 k y0 y1 y2 y3) (ambryref19_Need.j0 (k + 1) y0 y1 y2 y3))
  | 0 => fun _ _ _ _ r h => by simp [ambryref19_Need.j0] at h
  | k + 1 => by
    have ih0 := ambryref19_Need.mono_l k
    · intro y0 y1 y2 y3
      unfold ambryref19_Need.j0
      repeat' first
      | (with_reducible exact ih0 _ _ _ _)
      | (with_reducible exact LeO.refl _)
      | (with_reducible exact LeO.none _)
      | (with_reducible refine LeO.ite ?_ ?_)
      | (with_reducible refine LeO.bind ?_ (fun _ => ?_))
      | exact ih0 _ _ _ _
      | exact LeO.none _
      | refine LeO.ite ?_ ?_
      | refine LeO.bind ?_ (fun _ => ?_)
theorem ambryref19_Need.mono : ∀ a0 a1 a2 k, LeO (ambryref19_Need.f k a0 a1 a2) (ambryref19_Need.f (k + 1) a0 a1 a2) := by
  intro a0 a1 a2 k
  have ih0 := ambryref19_Need.mono_l k
  unfold ambryref19_Need.f
  repeat' first
      | (with_reducible exact ih0 _ _ _ _)
      | (with_reducible exact LeO.refl _)
      | (with_reducible exact LeO.none _)
      | (with_reducible refine LeO.ite ?_ ?_)
      | (with_reducible refine LeO.bind ?_ (fun _ => ?_))
      | exact ih0 _ _ _ _
      | exact LeO.none _
      | refine LeO.ite ?_ ?_
      | refine LeO.bind ?_ (fun _ => ?_)
set_option maxHeartbeats 8000000 in
set_option maxRecDepth 100000 in
theorem ambryref19_Need.calls (k : Nat) (a0 : Int) (a1 : Int) (a2 : Int) (r1 : Int) (r2 : Int) (r3 : Int) (w : World) (h : ambryref19_Need.f k a0 a1 a2 = some (r1, r2, r3)) :
    Calls Try.prog 10 #[.int .i64 a0, .int .i64 a1, .int .i64 a2] w fun e w' => e = .returned (.tuple #[.int .i64 r1, .int .i64 r2, .int .i64 r3]) ∧ Below w.heap.size w w' := by
  have HB := Aside0.mk (Below.refl w.heap.size w)
  have H : (if a0 < 0 then (ambryref19_Need.j0 k a0 a1 a2 true) else (if a0 > 2560 then (ambryref19_Need.j0 k a0 a1 a2 true) else (if a1 < 0 then (ambryref19_Need.j0 k a0 a1 a2 true) else (if a1 > a0 then (ambryref19_Need.j0 k a0 a1 a2 true) else (ambryref19_Need.j0 k a0 a1 a2 (decide (a2 < 0))))))) = some (r1, r2, r3) := h
  clear h
  have HC4 := Aside0.mk H
  clear H
  go_enter Try.func10, Try.ntmps10
  go_upto_region 1 with (fail)
  go_cut [29] (fun v29 wc => ∃ (kq : Nat) (x29_3 : Bool), v29 = .bool x29_3 ∧ Aside0 (ambryref19_Need.j0 kq a0 a1 a2 x29_3 = some (r1, r2, r3)) ∧ Aside0 (kq ≤ k) ∧ Aside0 (Below w.heap.size w wc))
  case first =>
    have H := HC4.out
    clear HC4
    by_cases c5 : a0 < 0
    · rw [if_pos c5] at H
      have c5b0 : decide (a0 < 0) = true := decide_eq_true c5
      clear c5
      (first | rw [c5b0] | (simp only [i64_w, i32_w]; rw [c5b0]) | skip)
      have H' := Aside0.mk H
      clear H
      go_wp2
      go_meet
      case rel => exact ⟨_, (true), (by first | rfl | (simp; done) | (simp [*]; done)), H', ⟨by first | omega | exact Nat.le_refl _⟩, ⟨by repeat (first | (with_reducible first | exact HB.out | apply below_alloc | apply pw_below_drewN | apply below_drew1) | exact HB.out)⟩⟩
    · rw [if_neg c5] at H
      have c5b0 : decide (a0 < 0) = false := decide_eq_false c5
      clear c5
      (first | rw [c5b0] | (simp only [i64_w, i32_w]; rw [c5b0]) | skip)
      by_cases c6 : a0 > 2560
      · rw [if_pos c6] at H
        have c6b0 : decide (2560 < a0) = true := decide_eq_true c6
        clear c6
        have H' := Aside0.mk H
        clear H
        go_wp2
        go_meet
        case rel => exact ⟨_, (true), (by first | rfl | (simp; done) | (simp [*]; done)), H', ⟨by first | omega | exact Nat.le_refl _⟩, ⟨by repeat (first | (with_reducible first | exact HB.out | apply below_alloc | apply pw_below_drewN | apply below_drew1) | exact HB.out)⟩⟩
      · rw [if_neg c6] at H
        have c6b0 : decide (2560 < a0) = false := decide_eq_false c6
        clear c6
        by_cases c7 : a1 < 0
        · rw [if_pos c7] at H
          have c7b0 : decide (a1 < 0) = true := decide_eq_true c7
          clear c7
          have H' := Aside0.mk H
          clear H
          go_wp2
          go_meet
          case rel => exact ⟨_, (true), (by first | rfl | (simp; done) | (simp [*]; done)), H', ⟨by first | omega | exact Nat.le_refl _⟩, ⟨by repeat (first | (with_reducible first | exact HB.out | apply below_alloc | apply pw_below_drewN | apply below_drew1) | exact HB.out)⟩⟩
        · rw [if_neg c7] at H
          have c7b0 : decide (a1 < 0) = false := decide_eq_false c7
          clear c7
          by_cases c8 : a1 > a0
          · rw [if_pos c8] at H
            have c8b0 : decide (a0 < a1) = true := decide_eq_true c8
            clear c8
            have H' := Aside0.mk H
            clear H
            go_wp2
            go_meet
            case rel => exact ⟨_, (true), (by first | rfl | (simp; done) | (simp [*]; done)), H', ⟨by first | omega | exact Nat.le_refl _⟩, ⟨by repeat (first | (with_reducible first | exact HB.out | apply below_alloc | apply pw_below_drewN | apply below_drew1) | exact HB.out)⟩⟩
          · rw [if_neg c8] at H
            have c8b0 : decide (a0 < a1) = false := decide_eq_false c8
            clear c8
            have H' := Aside0.mk H
            clear H
            go_wp2
            go_meet
            case rel => exact ⟨_, (decide (a2 < 0)), (by first | rfl | (simp; done) | (simp [*]; done)), H', ⟨by first | omega | exact Nat.le_refl _⟩, ⟨by repeat (first | (with_reducible first | exact HB.out | apply below_alloc | apply pw_below_drewN | apply below_drew1) | exact HB.out)⟩⟩
  case rest =>
    clear HC4
    try clear c1
    try clear p2
    try clear c5
    try clear c5b0
    try clear c6
    try clear c6b0
    try clear c7
    try clear c7b0
    try clear c8
    try clear c8b0
    obtain ⟨kq, x29_3, rfl, HA, HJ3, HB⟩ := hcut
    cases kq with
    | zero => exact absurd HA.out (by simp [ambryref19_Need.j0])
    | succ kj3 =>
      have H := HA.out
      clear HA
      simp only [ambryref19_Need.j0] at H
      by_cases c9 : x29_3 = true
      · subst c9
        have H1 : (some (0, 0, 2)) = some (r1, r2, r3) := by rw [if_pos rfl] at H; exact H
        clear H
        have H := H1
        clear H1
        simp only [Option.some.injEq, Prod.mk.injEq] at H
        obtain ⟨rfl, rfl, rfl⟩ := H
        go_wp2
        go_ret3
        exact ⟨by first | rfl | (simp [errW_none, errW_some] <;> rfl) | (simp [*, errW_none, errW_some] <;> rfl), by repeat (first | (with_reducible first | exact HB.out | apply below_alloc | apply pw_below_drewN | apply below_drew1) | exact HB.out)⟩
      · replace c9 := Bool.eq_false_iff.mpr c9
        subst c9
        have H1 : (if (mn a2 (wrap64 (a0 - a1))) = 0 then (some (0, 0, 0)) else (some (wrap64 (Int.tdiv a1 160), wrap64 ((wrap64 ((wrap64 (Int.tdiv (wrap64 ((wrap64 (a1 + (mn a2 (wrap64 (a0 - a1))))) - 1)) 160)) - (wrap64 (Int.tdiv a1 160)))) + 1), 0))) = some (r1, r2, r3) := by rw [if_neg (show ¬ (false = true) by decide)] at H; exact H
        clear H
        have H := H1
        clear H1
        obtain ⟨ji10, hji10⟩ : ∃ j_ : Int, (mn a2 (wrap64 (a0 - a1))) = j_ := ⟨_, rfl⟩
        replace H : (if (ji10) = 0 then (some (0, 0, 0)) else (some (wrap64 (Int.tdiv a1 160), wrap64 ((wrap64 ((wrap64 (Int.tdiv (wrap64 ((wrap64 (a1 + (ji10))) - 1)) 160)) - (wrap64 (Int.tdiv a1 160)))) + 1), 0))) = some (r1, r2, r3) := by first | (rw [hji10] at H; exact H) | (simp only [hji10] at H ⊢; exact H)
        have hji10_ : (if (wrap64 (a0 - a1)) < a2 then (wrap64 (a0 - a1)) else a2) = ji10 := hji10
        by_cases c11 : (ji10) = 0
        · rw [if_pos c11] at H
          have c11b0 : ((ji10) == 0) = true := beq_iff_eq.mpr c11
          have c11b1 : ((ji10) != 0) = false := bne_eq_false_iff_eq.mpr c11
          clear c11
          simp only [Option.some.injEq, Prod.mk.injEq] at H
          obtain ⟨rfl, rfl, rfl⟩ := H
          go_wp2
          go_ret3
          exact ⟨by first | rfl | (simp [errW_none, errW_some] <;> rfl) | (simp only [← hji10]; first | rfl | (simp [errW_none, errW_some] <;> rfl)) | (simp [*, errW_none, errW_some] <;> rfl), by repeat (first | (with_reducible first | exact HB.out | apply below_alloc | apply pw_below_drewN | apply below_drew1) | exact HB.out)⟩
        · rw [if_neg c11] at H
          have c11b0 : ((ji10) == 0) = false := beq_eq_false_iff_ne.mpr c11
          have c11b1 : ((ji10) != 0) = true := bne_iff_ne.mpr c11
          simp only [Option.some.injEq, Prod.mk.injEq] at H
          obtain ⟨rfl, rfl, rfl⟩ := H
          go_wp2
          go_ret3
          exact ⟨by first | rfl | (simp [errW_none, errW_some] <;> rfl) | (simp only [← hji10]; first | rfl | (simp [errW_none, errW_some] <;> rfl)) | (simp [*, errW_none, errW_some] <;> rfl), by repeat (first | (with_reducible first | exact HB.out | apply below_alloc | apply pw_below_drewN | apply below_drew1) | exact HB.out)⟩

/-! ### strings_Join: function 22, by hand: of any strings, with nothing between them -/
/-- How many bytes strings have. -/
def lensB (l : List ByteArray) : Nat := (l.map (·.size)).sum
/-- The bytes of strings, one behind the other. -/
def catB (l : List ByteArray) : List UInt8 := (l.map (·.data.toList)).flatten
theorem lensB_take (l : List ByteArray) (i : Nat) (h : i < l.length) : lensB (l.take (i + 1)) = lensB (l.take i) + l[i].size := by
  unfold lensB
  rw [List.take_add_one, List.getElem?_eq_getElem h]
  simp only [Option.toList_some, List.map_append, List.map_cons, List.map_nil, List.sum_append, List.sum_cons, List.sum_nil, Nat.add_zero]
theorem lensB_le (l : List ByteArray) (i : Nat) : lensB (l.take i) ≤ lensB l := by
  induction l generalizing i with
  | nil => simp
  | cons x l ih =>
    cases i with
    | zero => simp [lensB]
    | succ i =>
      have := ih i
      simp only [lensB, List.take_succ_cons, List.map_cons, List.sum_cons] at this ⊢
      omega
theorem catB_take (l : List ByteArray) (i : Nat) (h : i < l.length) : catB (l.take (i + 1)) = catB (l.take i) ++ l[i].data.toList := by
  unfold catB
  rw [List.take_add_one, List.getElem?_eq_getElem h]
  simp only [Option.toList_some, List.map_append, List.map_cons, List.map_nil, List.flatten_append, List.flatten_cons, List.flatten_nil, List.append_nil]
theorem catB_length (l : List ByteArray) : (catB l).length = lensB l := by
  induction l with
  | nil => rfl
  | cons x l ih =>
    have e : x.data.toList.length = x.size := rfl
    simp only [catB, lensB, List.map_cons, List.flatten_cons, List.length_append, List.sum_cons] at ih ⊢
    rw [ih, e]
theorem rdOf_at (l : List ByteArray) (i : Nat) (h : i < l.length) : rdOf ByteArray.empty l (i : Int) = l[i] := by
  simp [rdOf, List.getElem?_eq_getElem h]
theorem strCells_none (l : List Value) : l ++ Lib.strCells ⟨#[]⟩ = l := by
  rw [show Lib.strCells ⟨#[]⟩ = [] from rfl, List.append_nil]
theorem addr_add0 (ad : Addr) : ad.add 0 = ad := by cases ad; rfl
set_option maxHeartbeats 4000000 in
set_option maxRecDepth 100000 in
theorem join_many (A0 : Option Addr) (c0 : Nat) (l0 : List ByteArray) (w : World) (hr0 : Kd.C Kd.string w A0 l0.length l0) (hc0 : l0.length ≤ c0) (h2 : 2 ≤ l0.length) (hl : lensB l0 ≤ 140737488355328) :
    Calls Try.prog 22 #[.slice A0 l0.length c0, .string ⟨#[]⟩] w fun e w' => e = .returned (.string ⟨(catB l0).toArray⟩) ∧ Below w.heap.size w w' := by
  have HM : Aside0 (l0.length ≤ 9223372036854775807) := ⟨Kd.C_max hr0⟩
  have HR0 := Aside0.mk hr0
  have HC0 := Aside0.mk hc0
  have H2 := Aside0.mk h2
  have HL := Aside0.mk hl
  have hne0 : ((l0.length : Int) == 0) = false := beq_eq_false_iff_ne.2 (by omega)
  have hne1 : ((l0.length : Int) == 1) = false := beq_eq_false_iff_ne.2 (by omega)
  clear hr0 hc0 h2 hl
  go_enter Try.func22, Try.ntmps22
  go_wp2
  go_loopg [5, 41] (l0.length + 1) (fun kq v5 v41 w' => ∃ (i : Nat), v41 = .int .i64 (i : Int) ∧ v5 = .int .i64 (lensB (l0.take i) : Int) ∧ Aside0 (i ≤ l0.length) ∧ Aside0 (i + kq = l0.length + 1) ∧ Drawn0 w w')
  case atStart => exact ⟨0, rfl, by simp [lensB], ⟨Nat.zero_le _⟩, ⟨by omega⟩, by repeat (first | exact Drawn0.refl _ | apply Drawn0.step)⟩
  case round =>
    obtain ⟨i, rfl, rfl, HI, HK, ⟨m1, rfl⟩⟩ := hrel
    by_cases hlt : i < l0.length
    · have hd : decide ((i : Int) < (l0.length : Int)) = true := decide_eq_true (by omega)
      obtain ⟨ad, e1, hx⟩ := Kd.at_string HR0.out (i : Int) (by omega) (by omega)
      cases e1
      rw [rdOf_at l0 i hlt, Int.toNat_natCast] at hx
      have hle := lensB_le l0 (i + 1)
      have hst := lensB_take l0 i hlt
      have hL := HL.out
      have hgt : decide (wrap64 (9223372036854775807 - (lensB (l0.take i) : Int)) < (l0[i].size : Int)) = false := decide_eq_false (by unfold wrap64; omega)
      have p1 : ((0 : Int) ≤ (i : Int)) = True := eq_true (by omega)
      have q1 : ((i : Int) < (l0.length : Int)) = True := eq_true (by omega)
      cases gk with
      | zero => exact absurd HK.out (by omega)
      | succ k1 =>
        have HN : Aside0 ((wrap64 ((lensB (l0.take i) : Int) + (l0[i].size : Int))) = (lensB (l0.take (i + 1)) : Int)) := ⟨by unfold wrap64; omega⟩
        have HN1 : Aside0 (wrap64 ((i : Int) + 1) = ((i + 1 : Nat) : Int)) := ⟨by have := HM.out; unfold wrap64; omega⟩
        clear hle hst hL
        go_wp2
        go_roundg k1
        case measure => exact Nat.lt_succ_self _
        case rel => exact ⟨i + 1, by first | exact congrArg (Value.int IntKind.i64) HN1.out | exact HN1.out, by first | exact congrArg (Value.int IntKind.i64) HN.out | exact HN.out, ⟨by omega⟩, ⟨by have := HK.out; omega⟩, by repeat (first | exact Drawn0.refl _ | apply Drawn0.step)⟩
    · have hd : decide ((i : Int) < (l0.length : Int)) = false := decide_eq_false (by omega)
      have e : i = l0.length := by have := HI.out; omega
      subst e
      rw [List.take_length]
      obtain ⟨ad, e1, hx⟩ := Kd.at_string HR0.out 0 (by decide) (by have := H2.out; omega)
      cases e1
      have hx0 := hx
      rw [show (0 : Int) = ((0 : Nat) : Int) from rfl, rdOf_at l0 0 (by have := H2.out; omega), Int.toNat_natCast] at hx0
      clear hx
      have HX0 := Aside0.mk hx0
      clear hx0
      have hp : ((0 : Int) < (l0.length : Int)) = True := eq_true (by have := H2.out; omega)
      have hp2 : (0 < l0.length) = True := eq_true (by have := H2.out; omega)
      have hp4 : ((1 : Int) ≤ (l0.length : Int)) = True := eq_true (by have := H2.out; omega)
      have hp3 : (c0 = 1) = False := eq_false (by have := H2.out; have := HC0.out; omega)
      go_wp2_with (go_at_call 29; go_loud (refine (Try.Builder_Grow_fresh w.heap.size w.heap.size (lensB l0) _ (Nat.le_refl _) (heap_alloc_new (w.drewN m1) _) (by simp) (by have := HL.out; omega)).mono ?_; rintro e w1 ⟨rfl, h1, hb1⟩; have HB1 := Aside0.mk (((pw_below_drewN (Below.refl w.heap.size w) m1).alloc (Nat.le_refl _) _).trans hb1); have HI1 := Aside0.mk (Or.inr h1 : Lib.IsBuilder 63 5 w.heap.size w.heap.size [] w1); have HC1 := Kd.C_below HR0.out HB1.out; have hx1 : w1.cell? ad = some (.string (l0[0]'(by have := H2.out; omega))) := (by obtain ⟨ad', e', h'⟩ := Kd.at_string HC1 0 (by decide) (by have := H2.out; omega); cases e'; rw [show (0 : Int) = ((0 : Nat) : Int) from rfl, rdOf_at l0 0 (by have := H2.out; omega), Int.toNat_natCast] at h'; rw [addr_add0] at h'; exact h'); clear hb1 h1 HC1))
      go_wp2_with (go_at_call 30; go_loud (refine (Try.Builder_WriteString w.heap.size w.heap.size _ _ w1 HI1.out ?hL (HB1.out.size)).mono ?_; (case hL => have h1 := lensB_le l0 (0 + 1); have h2 := lensB_take l0 0 (by have := H2.out; omega); have h3 := HL.out; simp only [List.length_nil]; omega); rintro e w2 ⟨rfl, h2, hb2⟩; have HB2 := Aside0.mk (HB1.out.trans hb2); have HI2 := Aside0.mk (Or.inr h2 : Lib.IsBuilder 63 5 w.heap.size w.heap.size _ w2); clear hb2 h2))
      go_loopg [65] l0.length (fun kq v65 w' => ∃ (i : Nat), v65 = .int .i64 (i : Int) ∧ Aside0 (i + kq = l0.length) ∧ Aside0 (i + 1 ≤ l0.length) ∧ Aside0 (Lib.IsBuilder 63 5 w.heap.size w.heap.size (Lib.byteCells (catB (l0.take (i + 1)))) w') ∧ Aside0 (Below w.heap.size w w'))
      case atStart =>
        refine ⟨0, rfl, ⟨by omega⟩, ⟨by have := H2.out; omega⟩, ⟨?_⟩, HB2⟩
        have e : Lib.byteCells (catB (l0.take (0 + 1))) = [] ++ Lib.strCells (l0[0]'(by have := H2.out; omega)) := by
          rw [catB_take l0 0 (by have := H2.out; omega)]
          rfl
        rw [e]
        exact HI2.out
      case round =>
        obtain ⟨i, rfl, HK2, HI3, HBd, HB3⟩ := hrel
        by_cases hlt : i + 1 < l0.length
        · cases gk with
          | zero => exact absurd HK2.out (by omega)
          | succ k1 =>
            have hs : (i < l0.length - 1) = True := eq_true (by omega)
            have HX : Aside0 (wr.cell? (ad.add (i + 1)) = some (.string l0[i + 1])) := ⟨by
              obtain ⟨ad', e', h'⟩ := Kd.at_string (Kd.C_below HR0.out HB3.out) ((i + 1 : Nat) : Int) (by omega) (by omega)
              cases e'
              rw [rdOf_at l0 (i + 1) hlt, Int.toNat_natCast] at h'
              exact h'⟩
            have hx : wr.cell? { block := ad.block, off := ad.off + 1 + i } = some (.string l0[i + 1]) := by
              have e : ad.add (i + 1) = { block := ad.block, off := ad.off + 1 + i } := by
                unfold Addr.add
                rw [if_neg (by omega), Nat.add_assoc, Nat.add_comm 1 i]
              rw [← e]
              exact HX.out
            have HLe : Aside0 ((Lib.byteCells (catB (l0.take (i + 1)))).length + l0[i + 1].size ≤ 140737488355328) := ⟨by
              have h1 := lensB_le l0 (i + 1 + 1)
              have h2 := lensB_take l0 (i + 1) hlt
              have h3 := HL.out
              rw [Lib.byteCells_length, catB_length]
              omega⟩
            have HLe0 : Aside0 ((Lib.byteCells (catB (l0.take (i + 1)))).length + (⟨#[]⟩ : ByteArray).size ≤ 140737488355328) := ⟨by
              have h1 := HLe.out
              have e0 : (⟨#[]⟩ : ByteArray).size = 0 := rfl
              omega⟩
            obtain ⟨y, hy⟩ : ∃ y, l0[i + 1] = y := ⟨_, rfl⟩
            rw [hy] at hx HLe
            have HE : Aside0 (Lib.byteCells (catB (l0.take (i + 1))) ++ Lib.strCells y = Lib.byteCells (catB (l0.take (i + 1 + 1)))) := ⟨by
              rw [catB_take l0 (i + 1) hlt, Lib.byteCells_append, hy]
              rfl⟩
            clear hy
            clear HX
            have C1 := Aside0.mk (Try.Builder_WriteString w.heap.size w.heap.size (Lib.byteCells (catB (l0.take (i + 1)))) (⟨#[]⟩ : ByteArray) wr HBd.out HLe0.out HB3.out.size)
            go_wp2_with (go_at_call 30; fail)
            refine C1.out.mono ?_
            rintro e w4 ⟨rfl, h4, hb4⟩
            have HB4 := Aside0.mk (HB3.out.trans hb4)
            rw [strCells_none] at h4
            have HI4 : Aside0 (Lib.IsBuilder 63 5 w.heap.size w.heap.size (Lib.byteCells (catB (l0.take (i + 1)))) w4) := ⟨Or.inr h4⟩
            clear hb4 h4
            have C2 := Aside0.mk (Try.Builder_WriteString w.heap.size w.heap.size (Lib.byteCells (catB (l0.take (i + 1)))) y w4 HI4.out HLe.out HB4.out.size)
            go_wp2_with (go_at_call 30; fail)
            refine C2.out.mono ?_
            rintro e w6 ⟨rfl, h6, hb6⟩
            have HB6 := Aside0.mk (HB4.out.trans hb6)
            rw [HE.out] at h6
            have HI6 : Aside0 (Lib.IsBuilder 63 5 w.heap.size w.heap.size (Lib.byteCells (catB (l0.take (i + 1 + 1)))) w6) := ⟨Or.inr h6⟩
            clear hb6 h6
            go_wp2
            go_roundg k1
            case measure => exact Nat.lt_succ_self _
            case rel => exact ⟨i + 1, by first | rfl | exact congrArg (Value.int IntKind.i64) (by have := HM.out; unfold wrap64; omega), ⟨by have := HK2.out; omega⟩, ⟨hlt⟩, HI6, HB6⟩
        · have hs : (i < l0.length - 1) = False := eq_false (by omega)
          have e : i + 1 = l0.length := by have := HI3.out; omega
          rw [e, List.take_length] at HBd
          go_wp2_with (first | (go_at_call 31; go_loud (refine (Try.Builder_String_any w.heap.size w.heap.size _ _ HBd.out (HB3.out.size)).mono ?_; rintro e w6 ⟨rfl, hb6⟩; have HB6 := Aside0.mk (HB3.out.trans hb6); clear hb6)))
          go_ret
          exact ⟨rfl, HB6.out⟩
set_option maxHeartbeats 4000000 in
set_option maxRecDepth 100000 in
theorem join_none (A0 : Option Addr) (c0 : Nat) (a1 : ByteArray) (w : World) :
    Calls Try.prog 22 #[.slice A0 0 c0, .string a1] w fun e w' => e = .returned (.string ⟨#[]⟩) ∧ Below w.heap.size w w' := by
  go_enter Try.func22, Try.ntmps22
  go_wp2
  go_ret
  exact ⟨rfl, by repeat (first | exact Below.refl _ _ | apply pw_below_drewN)⟩
set_option maxHeartbeats 4000000 in
set_option maxRecDepth 100000 in
theorem join_one (A0 : Option Addr) (c0 : Nat) (x a1 : ByteArray) (w : World) (hr0 : Kd.C Kd.string w A0 1 [x]) :
    Calls Try.prog 22 #[.slice A0 1 c0, .string a1] w fun e w' => e = .returned (.string x) ∧ Below w.heap.size w w' := by
  obtain ⟨ad, rfl, hx⟩ := Kd.at_string hr0 0 (by decide) (by decide)
  replace hx : w.cell? ad = some (.string x) := hx
  go_enter Try.func22, Try.ntmps22
  go_wp2
  go_ret
  exact ⟨rfl, by repeat (first | exact Below.refl _ _ | apply pw_below_drewN)⟩
def strings_Join.f (l0 : List ByteArray) (a1 : ByteArray) : Option ByteArray := if a1.size = 0 ∧ lensB l0 ≤ 140737488355328 then some ⟨(catB l0).toArray⟩ else none
theorem strings_Join.calls (A0 : Option Addr) (c0 : Nat) (l0 : List ByteArray) (a1 : ByteArray) (r : ByteArray) (w : World) (hr0 : Kd.C Kd.string w A0 l0.length l0) (hc0 : l0.length ≤ c0) (h : strings_Join.f l0 a1 = some r) :
    Calls Try.prog 22 #[.slice A0 l0.length c0, .string a1] w fun e w' => e = .returned (.string r) ∧ Below w.heap.size w w' := by
  unfold strings_Join.f at h
  by_cases hc : a1.size = 0 ∧ lensB l0 ≤ 140737488355328
  · rw [if_pos hc] at h
    obtain rfl := Option.some.inj h
    obtain ⟨h0, hl⟩ := hc
    have e1 : a1 = ⟨#[]⟩ := by
      apply ByteArray.ext
      exact Array.eq_empty_of_size_eq_zero h0
    subst e1
    match l0, hr0, hc0, hl with
    | [], _, _, _ => exact join_none A0 c0 _ w
    | [x], hr0, _, _ =>
      have e : (⟨(catB [x]).toArray⟩ : ByteArray) = x := by
        apply ByteArray.ext
        simp [catB]
      rw [e]
      exact join_one A0 c0 x _ w hr0
    | x :: y :: l, hr0, hc0, hl => exact join_many A0 c0 (x :: y :: l) w hr0 hc0 (by simp) hl
  · rw [if_neg hc] at h
    exact absurd h (by simp)

/-! ### blob_formed: function 23 -/
def blob_formed.l0 : Nat → List ByteArray → List ByteArray → Int → Int → Option (Bool)
  | 0, _, _, _, _ => none
  | k + 1, x0, x5, x6, x7 => if x7 < x6 then (if 0 ≤ x7 then (if x7 < (x5.length : Int) then (if ((rdOf ByteArray.empty x5 x7).size : Int) = 0 then (some false) else (if ((rdOf ByteArray.empty x5 x7).size : Int) > 160 then (some false) else (if x7 < (wrap64 ((x0.length : Int) - 1)) then (if ((rdOf ByteArray.empty x5 x7).size : Int) < 160 then (some false) else (blob_formed.l0 k x0 x5 x6 (wrap64 (x7 + 1)))) else (blob_formed.l0 k x0 x5 x6 (wrap64 (x7 + 1)))))) else (none)) else (none)) else (some true)
def blob_formed.f (k : Nat) (l0 : List ByteArray) : Option (Bool) := blob_formed.l0 k l0 l0 (l0.length : Int) 0
theorem blob_formed.mono_l : ∀ k, (∀ y0 y1 y2 y3, LeO (blob_formed.l0 k y0 y1 y2 y3) (blob_formed.l0 (k + 1) y0 y1 y2 y3))
  | 0 => fun _ _ _ _ r h => by simp [blob_formed.l0] at h
  | k + 1 => by
    have ih0 := blob_formed.mono_l k
    · intro y0 y1 y2 y3
      unfold blob_formed.l0
      repeat' first
      | (with_reducible exact ih0 _ _ _ _)
      | (with_reducible exact LeO.refl _)
      | (with_reducible exact LeO.none _)
      | (with_reducible refine LeO.ite ?_ ?_)
      | (with_reducible refine LeO.bind ?_ (fun _ => ?_))
      | exact ih0 _ _ _ _
      | exact LeO.none _
      | refine LeO.ite ?_ ?_
      | refine LeO.bind ?_ (fun _ => ?_)
theorem blob_formed.mono : ∀ a0 k, LeO (blob_formed.f k a0) (blob_formed.f (k + 1) a0) := by
  intro a0 k
  have ih0 := blob_formed.mono_l k
  unfold blob_formed.f
  repeat' first
      | (with_reducible exact ih0 _ _ _ _)
      | (with_reducible exact LeO.refl _)
      | (with_reducible exact LeO.none _)
      | (with_reducible refine LeO.ite ?_ ?_)
      | (with_reducible refine LeO.bind ?_ (fun _ => ?_))
      | exact ih0 _ _ _ _
      | exact LeO.none _
      | refine LeO.ite ?_ ?_
      | refine LeO.bind ?_ (fun _ => ?_)
set_option maxHeartbeats 8000000 in
set_option maxRecDepth 100000 in
theorem blob_formed.calls (k : Nat) (A0 : Option Addr) (c0 : Nat) (l0 : List ByteArray) (r : Bool) (w : World) (hr0 : Kd.C Kd.string w A0 l0.length l0) (hc0 : l0.length ≤ c0) (h : blob_formed.f k l0 = some r) :
    Calls Try.prog 23 #[.slice A0 l0.length c0] w fun e w' => e = .returned (.bool r) ∧ Drawn0 w w' := by
  have HR0 := Aside0.mk hr0
  have HC0 := Aside0.mk hc0
  clear hr0 hc0
  have H : (blob_formed.l0 k l0 l0 (l0.length : Int) 0) = some r := h
  clear h
  have H' := Aside0.mk H
  clear H
  go_enter Try.func23, Try.ntmps23
  go_wp2
  go_loopg [7] k (fun kq v7 w' => ∃ (x7_1 : Int), v7 = .int .i64 x7_1 ∧ Aside0 (blob_formed.l0 kq l0 l0 (l0.length : Int) x7_1 = some r) ∧ Aside0 (kq ≤ k) ∧ Drawn0 w w')
  case atStart => exact ⟨(0), (by first | rfl | (simp; done) | (simp [*]; done)), H', ⟨Nat.le_refl _⟩, by repeat (first | exact Drawn0.refl _ | apply Drawn0.step)⟩
  case round =>
    clear H'
    obtain ⟨x7_1, rfl, HA, HK1, ⟨m1, rfl⟩⟩ := hrel
    cases gk with
    | zero => exact absurd HA.out (by simp [blob_formed.l0])
    | succ k1 =>
      have H := HA.out
      clear HA
      simp only [blob_formed.l0] at H
      by_cases c2 : x7_1 < (l0.length : Int)
      · rw [if_pos c2] at H
        have c2b0 : decide (x7_1 < (l0.length : Int)) = true := decide_eq_true c2
        clear c2
        by_cases c3 : 0 ≤ x7_1
        · rw [if_pos c3] at H
          have c3b0 : decide (0 ≤ x7_1) = true := decide_eq_true c3
          clear c3
          by_cases c4 : x7_1 < (l0.length : Int)
          · rw [if_pos c4] at H
            have c4b0 : decide (x7_1 < (l0.length : Int)) = true := decide_eq_true c4
            clear c4
            by_cases c5 : ((rdOf ByteArray.empty l0 x7_1).size : Int) = 0
            · rw [if_pos c5] at H
              have c5b0 : (((rdOf ByteArray.empty l0 x7_1).size : Int) == 0) = true := beq_iff_eq.mpr c5
              have c5b1 : (((rdOf ByteArray.empty l0 x7_1).size : Int) != 0) = false := bne_eq_false_iff_eq.mpr c5
              clear c5
              obtain rfl := Option.some.inj H
              have p128 : 0 ≤ (x7_1 : Int) := of_decide_eq_true (by first | (with_reducible assumption) | assumption)
              have q128 : x7_1 < (l0.length : Int) := of_decide_eq_true (by first | (with_reducible assumption) | assumption)
              obtain ⟨ad128, e128, hx128_0⟩ := Kd.at_string HR0.out x7_1 p128 q128
              cases e128
              replace p128 := eq_true p128
              replace q128 := eq_true q128
              go_wp2
              go_ret
              exact ⟨by first | rfl | (simp; done) | (simp [*]; done), by repeat (first | exact Drawn0.refl _ | apply Drawn0.step)⟩
            · rw [if_neg c5] at H
              have c5b0 : (((rdOf ByteArray.empty l0 x7_1).size : Int) == 0) = false := beq_eq_false_iff_ne.mpr c5
              have c5b1 : (((rdOf ByteArray.empty l0 x7_1).size : Int) != 0) = true := bne_iff_ne.mpr c5
              by_cases c6 : ((rdOf ByteArray.empty l0 x7_1).size : Int) > 160
              · rw [if_pos c6] at H
                have c6b0 : decide (160 < ((rdOf ByteArray.empty l0 x7_1).size : Int)) = true := decide_eq_true c6
                have c6b1 : decide (160 < (rdOf ByteArray.empty l0 x7_1).size) = true := decide_eq_true (by omega)
                clear c6
                obtain rfl := Option.some.inj H
                have p128 : 0 ≤ (x7_1 : Int) := of_decide_eq_true (by first | (with_reducible assumption) | assumption)
                have q128 : x7_1 < (l0.length : Int) := of_decide_eq_true (by first | (with_reducible assumption) | assumption)
                obtain ⟨ad128, e128, hx128_0⟩ := Kd.at_string HR0.out x7_1 p128 q128
                cases e128
                replace p128 := eq_true p128
                replace q128 := eq_true q128
                go_wp2
                go_ret
                exact ⟨by first | rfl | (simp; done) | (simp [*]; done), by repeat (first | exact Drawn0.refl _ | apply Drawn0.step)⟩
              · rw [if_neg c6] at H
                have c6b0 : decide (160 < ((rdOf ByteArray.empty l0 x7_1).size : Int)) = false := decide_eq_false c6
                have c6b1 : decide (160 < (rdOf ByteArray.empty l0 x7_1).size) = false := decide_eq_false (by omega)
                clear c6
                by_cases c7 : x7_1 < (wrap64 ((l0.length : Int) - 1))
                · rw [if_pos c7] at H
                  have c7b0 : decide (x7_1 < (wrap64 ((l0.length : Int) - 1))) = true := decide_eq_true c7
                  clear c7
                  by_cases c8 : ((rdOf ByteArray.empty l0 x7_1).size : Int) < 160
                  · rw [if_pos c8] at H
                    have c8b0 : decide (((rdOf ByteArray.empty l0 x7_1).size : Int) < 160) = true := decide_eq_true c8
                    have c8b1 : decide ((rdOf ByteArray.empty l0 x7_1).size < 160) = true := decide_eq_true (by omega)
                    clear c8
                    obtain rfl := Option.some.inj H
                    have p128 : 0 ≤ (x7_1 : Int) := of_decide_eq_true (by first | (with_reducible assumption) | assumption)
                    have q128 : x7_1 < (l0.length : Int) := of_decide_eq_true (by first | (with_reducible assumption) | assumption)
                    obtain ⟨ad128, e128, hx128_0⟩ := Kd.at_string HR0.out x7_1 p128 q128
                    cases e128
                    replace p128 := eq_true p128
                    replace q128 := eq_true q128
                    go_wp2
                    go_ret
                    exact ⟨by first | rfl | (simp; done) | (simp [*]; done), by repeat (first | exact Drawn0.refl _ | apply Drawn0.step)⟩
                  · rw [if_neg c8] at H
                    have c8b0 : decide (((rdOf ByteArray.empty l0 x7_1).size : Int) < 160) = false := decide_eq_false c8
                    have c8b1 : decide ((rdOf ByteArray.empty l0 x7_1).size < 160) = false := decide_eq_false (by omega)
                    clear c8
                    have H' := Aside0.mk H
                    clear H
                    have p128 : 0 ≤ (x7_1 : Int) := of_decide_eq_true (by first | (with_reducible assumption) | assumption)
                    have q128 : x7_1 < (l0.length : Int) := of_decide_eq_true (by first | (with_reducible assumption) | assumption)
                    obtain ⟨ad128, e128, hx128_0⟩ := Kd.at_string HR0.out x7_1 p128 q128
                    cases e128
                    replace p128 := eq_true p128
                    replace q128 := eq_true q128
                    go_wp2
                    go_roundg k1
                    case measure => have := HK1.out; omega
                    case rel => exact ⟨(wrap64 (x7_1 + 1)), (by first | rfl | (simp; done) | (simp [*]; done)), H', ⟨by have := HK1.out; omega⟩, by repeat (first | exact Drawn0.refl _ | apply Drawn0.step)⟩
                · rw [if_neg c7] at H
                  have c7b0 : decide (x7_1 < (wrap64 ((l0.length : Int) - 1))) = false := decide_eq_false c7
                  clear c7
                  have H' := Aside0.mk H
                  clear H
                  have p128 : 0 ≤ (x7_1 : Int) := of_decide_eq_true (by first | (with_reducible assumption) | assumption)
                  have q128 : x7_1 < (l0.length : Int) := of_decide_eq_true (by first | (with_reducible assumption) | assumption)
                  obtain ⟨ad128, e128, hx128_0⟩ := Kd.at_string HR0.out x7_1 p128 q128
                  cases e128
                  replace p128 := eq_true p128
                  replace q128 := eq_true q128
                  go_wp2
                  go_roundg k1
                  case measure => have := HK1.out; omega
                  case rel => exact ⟨(wrap64 (x7_1 + 1)), (by first | rfl | (simp; done) | (simp [*]; done)), H', ⟨by have := HK1.out; omega⟩, by repeat (first | exact Drawn0.refl _ | apply Drawn0.step)⟩
          · rw [if_neg c4] at H
            exact absurd H (by simp)
        · rw [if_neg c3] at H
          exact absurd H (by simp)
      · rw [if_neg c2] at H
        have c2b0 : decide (x7_1 < (l0.length : Int)) = false := decide_eq_false c2
        clear c2
        obtain rfl := Option.some.inj H
        go_wp2
        go_ret
        exact ⟨by first | rfl | (simp; done) | (simp [*]; done), by repeat (first | exact Drawn0.refl _ | apply Drawn0.step)⟩

/-! ### blob_Piece: function 11 -/
def blob_Piece.j0 : Nat → List ByteArray → Int → Int → Int → Bool → Option (ByteArray × Int)
  | 0, _, _, _, _, _ => none
  | k + 1, x0, x1, x2, x3, x23 => if x23 = true then (some ((⟨#[]⟩ : ByteArray), 2)) else ((strings_Join.f x0 (⟨#[]⟩ : ByteArray)).bind fun t133 => (if (wrap64 (x2 - (wrap64 (x1 * 160)))) > (t133.size : Int) then (some ((⟨#[]⟩ : ByteArray), 2)) else ((blob_formed.f k x0).bind fun t134 => (if t134 = true then (if 0 ≤ (wrap64 (x2 - (wrap64 (x1 * 160)))) then (if (wrap64 (x2 - (wrap64 (x1 * 160)))) ≤ (wrap64 ((wrap64 (x2 - (wrap64 (x1 * 160)))) + (mn x3 (wrap64 ((t133.size : Int) - (wrap64 (x2 - (wrap64 (x1 * 160))))))))) then (if (wrap64 ((wrap64 (x2 - (wrap64 (x1 * 160)))) + (mn x3 (wrap64 ((t133.size : Int) - (wrap64 (x2 - (wrap64 (x1 * 160))))))))) ≤ (t133.size : Int) then (some (t133.extract ((wrap64 (x2 - (wrap64 (x1 * 160)))) : Int).toNat ((wrap64 ((wrap64 (x2 - (wrap64 (x1 * 160)))) + (mn x3 (wrap64 ((t133.size : Int) - (wrap64 (x2 - (wrap64 (x1 * 160))))))))) : Int).toNat, 0)) else (none)) else (none)) else (none)) else (some ((⟨#[]⟩ : ByteArray), 4))))))
def blob_Piece.f (k : Nat) (l0 : List ByteArray) (a1 : Int) (a2 : Int) (a3 : Int) : Option (ByteArray × Int) := (blob_least.f k (([a1, a2, a3] : List Int))).bind fun t132 => (if t132 = true then (blob_Piece.j0 k l0 a1 a2 a3 (decide (a1 > (wrap64 (Int.tdiv a2 160))))) else (blob_Piece.j0 k l0 a1 a2 a3 true))
theorem blob_Piece.mono_l : ∀ k, (∀ y0 y1 y2 y3 y4, LeO (blob_Piece.j0 k y0 y1 y2 y3 y4) (blob_Piece.j0 (k + 1) y0 y1 y2 y3 y4))
  | 0 => fun _ _ _ _ _ r h => by simp [blob_Piece.j0] at h
  | k + 1 => by
    have ih0 := blob_Piece.mono_l k
    · intro y0 y1 y2 y3 y4
      unfold blob_Piece.j0
      repeat' first
      | (with_reducible exact ih0 _ _ _ _ _)
      | (with_reducible exact blob_formed.mono _ _)
      | (with_reducible exact blob_least.mono _ _)
      | (with_reducible exact LeO.refl _)
      | (with_reducible exact LeO.none _)
      | (with_reducible refine LeO.ite ?_ ?_)
      | (with_reducible refine LeO.bind ?_ (fun _ => ?_))
      | exact ih0 _ _ _ _ _
      | exact blob_formed.mono _ _
      | exact blob_least.mono _ _
      | exact LeO.none _
      | refine LeO.ite ?_ ?_
      | refine LeO.bind ?_ (fun _ => ?_)
theorem blob_Piece.mono : ∀ a0 a1 a2 a3 k, LeO (blob_Piece.f k a0 a1 a2 a3) (blob_Piece.f (k + 1) a0 a1 a2 a3) := by
  intro a0 a1 a2 a3 k
  have ih0 := blob_Piece.mono_l k
  unfold blob_Piece.f
  repeat' first
      | (with_reducible exact ih0 _ _ _ _ _)
      | (with_reducible exact blob_formed.mono _ _)
      | (with_reducible exact blob_least.mono _ _)
      | (with_reducible exact LeO.refl _)
      | (with_reducible exact LeO.none _)
      | (with_reducible refine LeO.ite ?_ ?_)
      | (with_reducible refine LeO.bind ?_ (fun _ => ?_))
      | exact ih0 _ _ _ _ _
      | exact blob_formed.mono _ _
      | exact blob_least.mono _ _
      | exact LeO.none _
      | refine LeO.ite ?_ ?_
      | refine LeO.bind ?_ (fun _ => ?_)
set_option maxHeartbeats 8000000 in
set_option maxRecDepth 100000 in
theorem blob_Piece.calls (k : Nat) (A0 : Option Addr) (c0 : Nat) (l0 : List ByteArray) (a1 : Int) (a2 : Int) (a3 : Int) (r1 : ByteArray) (r2 : Int) (w : World) (hr0 : Kd.C Kd.string w A0 l0.length l0) (hc0 : l0.length ≤ c0) (h : blob_Piece.f k l0 a1 a2 a3 = some (r1, r2)) :
    Calls Try.prog 11 #[.slice A0 l0.length c0, .int .i64 a1, .int .i64 a2, .int .i64 a3] w fun e w' => e = .returned (.tuple #[.string r1, .int .i64 r2]) ∧ Below w.heap.size w w' := by
  have HR0 := Aside0.mk hr0
  have HC0 := Aside0.mk hc0
  clear hr0 hc0
  have HB := Aside0.mk (Below.refl w.heap.size w)
  have H : ((blob_least.f k (([a1, a2, a3] : List Int))).bind fun t132 => (if t132 = true then (blob_Piece.j0 k l0 a1 a2 a3 (decide (a1 > (wrap64 (Int.tdiv a2 160))))) else (blob_Piece.j0 k l0 a1 a2 a3 true))) = some (r1, r2) := h
  clear h
  have HC5 := Aside0.mk H
  clear H
  go_enter Try.func11, Try.ntmps11
  go_upto_region 1 with (fail)
  go_cut [23] (fun v23 wc => ∃ (kq : Nat) (x23_4 : Bool), v23 = .bool x23_4 ∧ Aside0 (blob_Piece.j0 kq l0 a1 a2 a3 x23_4 = some (r1, r2)) ∧ Aside0 (kq ≤ k) ∧ Aside0 (Below w.heap.size w wc))
  case first =>
    have H := HC5.out
    clear HC5
    obtain ⟨y129, hy129⟩ : ∃ y_ : List Int, y_ = (([a1, a2, a3] : List Int)) := ⟨_, rfl⟩
    replace H : ((blob_least.f k y129).bind fun t132 => (if t132 = true then (blob_Piece.j0 k l0 a1 a2 a3 (decide (a1 > (wrap64 (Int.tdiv a2 160))))) else (blob_Piece.j0 k l0 a1 a2 a3 true))) = some (r1, r2) := by first | (rw [hy129]; with_reducible exact H) | (have H2_ := (Option.bind_some _ _).symm.trans H; rw [hy129]; with_reducible exact H2_) | (have H2_ := (Option.bind_some _ _).symm.trans H; with_reducible exact H2_) | with_reducible exact H | (rw [hy129]; exact H) | exact H
    have Ny129 := Aside0.mk hy129
    clear hy129
    replace H := Option.bind_eq_some_iff.mp H
    obtain ⟨t132, A60, H⟩ := H
    replace H : (if t132 = true then (blob_Piece.j0 k l0 a1 a2 a3 (decide (a1 > (wrap64 (Int.tdiv a2 160))))) else (blob_Piece.j0 k l0 a1 a2 a3 true)) = some (r1, r2) := H
    have A6 := Aside0.mk A60
    clear A60
    by_cases c7 : t132 = true
    · subst c7
      have H1 : (blob_Piece.j0 k l0 a1 a2 a3 (decide (a1 > (wrap64 (Int.tdiv a2 160))))) = some (r1, r2) := by rw [if_pos rfl] at H; exact H
      clear H
      have H := H1
      clear H1
      have H' := Aside0.mk H
      clear H
      go_wp2_with (first | ((with_reducible refine gate_dst (N := 15) rfl ?_); refine Kd.R_lit (Kd.int .i64) _ 3 ?hg (N := 15) ?hd (xs := ([a1, a2, a3] : List Int)) (inner := [.int .i64 a1, .int .i64 a2, .int .i64 a3]) (ok := fun _ => True) (okp := fun _ => True) ?hr ?hp (fun _ hk => hk) trivial (Below.refl _ _) (Nat.le_refl _) (by simp) ?_; (case hd => rfl); (case hg => rfl); (case hr => first | (go_simp; done) | (go_simp; rfl)); (case hp => exact (Reps.one (show Kd.M (Kd.int .i64) _ _ _ a1 [.int .i64 a1] from rfl) (Reps.one (show Kd.M (Kd.int .i64) _ _ _ a2 [.int .i64 a2] from rfl) (Reps.one (show Kd.M (Kd.int .i64) _ _ _ a3 [.int .i64 a3] from rfl) (Reps.none _ _))))); intro v130 w8 ho9 hb hg_ hnew_; clear hg_ hnew_; (first | rw [← Ny129.out] at ho9 | (simp only [Int.reduceToNat] at ho9; rw [← Ny129.out] at ho9)); have n0_ := Aside0.mk (Kd.R_lower ho9 (below_size (by repeat (first | (with_reducible first | exact HB.out | apply below_alloc | apply pw_below_drewN | apply below_drew1) | exact HB.out)))); have n1_ := Aside0.mk (below_step (by repeat (first | (with_reducible first | exact HB.out | apply below_alloc | apply pw_below_drewN | apply below_drew1) | exact HB.out)) hb); clear HB; have HO131 := n0_; have HB := n1_; clear n0_ n1_; clear hb ho9; obtain ⟨Ao10, co10, eo10⟩ := Kd.R_slice HO131.out; subst eo10) | ((with_reducible refine gate_callee (f := 21) rfl ?_); refine goesL_ (some 16) rfl rfl Try.func21 (by kernel_rfl) rfl #[.slice Ao10 y129.length co10] rfl (by (try simp only [List.map_toArray, List.map_cons, List.map_nil]); first | done | rfl | (simp only [List.length_drop, List.length_take]; rfl)) ?_; (with_reducible refine (blob_least.calls k _ _ y129 true _ ?side1 ?side2 A6.out).mono ?_); (case side1 => repeat (first | exact (Kd.R_reads' HO131.out).2.2 | (with_reducible refine Kd.C_alloc ?_ _) | (with_reducible refine Kd.C_drewN ?_ _) | (with_reducible refine Kd.C_drew ?_))); (case side2 => exact (Kd.R_reads' HO131.out).2.1); rintro e w' ⟨rfl, ⟨nd, rfl⟩⟩; refine ⟨_, rfl, ?_⟩))
      go_meet
      case rel => exact ⟨_, (decide (a1 > (wrap64 (Int.tdiv a2 160)))), (by first | rfl | (simp; done) | (simp [*]; done)), H', ⟨by first | omega | exact Nat.le_refl _⟩, ⟨by repeat (first | (with_reducible first | exact HB.out | apply below_alloc | apply pw_below_drewN | apply below_drew1) | exact HB.out)⟩⟩
    · replace c7 := Bool.eq_false_iff.mpr c7
      subst c7
      have H1 : (blob_Piece.j0 k l0 a1 a2 a3 true) = some (r1, r2) := by rw [if_neg (show ¬ (false = true) by decide)] at H; exact H
      clear H
      have H := H1
      clear H1
      have H' := Aside0.mk H
      clear H
      go_wp2_with (first | ((with_reducible refine gate_dst (N := 15) rfl ?_); refine Kd.R_lit (Kd.int .i64) _ 3 ?hg (N := 15) ?hd (xs := ([a1, a2, a3] : List Int)) (inner := [.int .i64 a1, .int .i64 a2, .int .i64 a3]) (ok := fun _ => True) (okp := fun _ => True) ?hr ?hp (fun _ hk => hk) trivial (Below.refl _ _) (Nat.le_refl _) (by simp) ?_; (case hd => rfl); (case hg => rfl); (case hr => first | (go_simp; done) | (go_simp; rfl)); (case hp => exact (Reps.one (show Kd.M (Kd.int .i64) _ _ _ a1 [.int .i64 a1] from rfl) (Reps.one (show Kd.M (Kd.int .i64) _ _ _ a2 [.int .i64 a2] from rfl) (Reps.one (show Kd.M (Kd.int .i64) _ _ _ a3 [.int .i64 a3] from rfl) (Reps.none _ _))))); intro v130 w11 ho12 hb hg_ hnew_; clear hg_ hnew_; (first | rw [← Ny129.out] at ho12 | (simp only [Int.reduceToNat] at ho12; rw [← Ny129.out] at ho12)); have n0_ := Aside0.mk (Kd.R_lower ho12 (below_size (by repeat (first | (with_reducible first | exact HB.out | apply below_alloc | apply pw_below_drewN | apply below_drew1) | exact HB.out)))); have n1_ := Aside0.mk (below_step (by repeat (first | (with_reducible first | exact HB.out | apply below_alloc | apply pw_below_drewN | apply below_drew1) | exact HB.out)) hb); clear HB; have HO131 := n0_; have HB := n1_; clear n0_ n1_; clear hb ho12; obtain ⟨Ao13, co13, eo13⟩ := Kd.R_slice HO131.out; subst eo13) | ((with_reducible refine gate_callee (f := 21) rfl ?_); refine goesL_ (some 16) rfl rfl Try.func21 (by kernel_rfl) rfl #[.slice Ao13 y129.length co13] rfl (by (try simp only [List.map_toArray, List.map_cons, List.map_nil]); first | done | rfl | (simp only [List.length_drop, List.length_take]; rfl)) ?_; (with_reducible refine (blob_least.calls k _ _ y129 false _ ?side1 ?side2 A6.out).mono ?_); (case side1 => repeat (first | exact (Kd.R_reads' HO131.out).2.2 | (with_reducible refine Kd.C_alloc ?_ _) | (with_reducible refine Kd.C_drewN ?_ _) | (with_reducible refine Kd.C_drew ?_))); (case side2 => exact (Kd.R_reads' HO131.out).2.1); rintro e w' ⟨rfl, ⟨nd, rfl⟩⟩; refine ⟨_, rfl, ?_⟩))
      go_meet
      case rel => exact ⟨_, (true), (by first | rfl | (simp; done) | (simp [*]; done)), H', ⟨by first | omega | exact Nat.le_refl _⟩, ⟨by repeat (first | (with_reducible first | exact HB.out | apply below_alloc | apply pw_below_drewN | apply below_drew1) | exact HB.out)⟩⟩
  case rest =>
    clear HC5
    try clear c1
    try clear c2
    try clear p2
    try clear p6
    try clear c7
    try clear c11
    obtain ⟨kq, x23_4, rfl, HA, HJ4, HB⟩ := hcut
    cases kq with
    | zero => exact absurd HA.out (by simp [blob_Piece.j0])
    | succ kj4 =>
      have H := HA.out
      clear HA
      simp only [blob_Piece.j0] at H
      by_cases c14 : x23_4 = true
      · subst c14
        have H1 : (some ((⟨#[]⟩ : ByteArray), 2)) = some (r1, r2) := by rw [if_pos rfl] at H; exact H
        clear H
        have H := H1
        clear H1
        simp only [Option.some.injEq, Prod.mk.injEq] at H
        obtain ⟨rfl, rfl⟩ := H
        go_wp2
        go_ret2
        exact ⟨by first | rfl | (simp [errW_none, errW_some] <;> rfl) | (simp [*, errW_none, errW_some] <;> rfl), by repeat (first | (with_reducible first | exact HB.out | apply below_alloc | apply pw_below_drewN | apply below_drew1) | exact HB.out)⟩
      · replace c14 := Bool.eq_false_iff.mpr c14
        subst c14
        have H1 : ((strings_Join.f l0 (⟨#[]⟩ : ByteArray)).bind fun t133 => (if (wrap64 (a2 - (wrap64 (a1 * 160)))) > (t133.size : Int) then (some ((⟨#[]⟩ : ByteArray), 2)) else ((blob_formed.f kj4 l0).bind fun t134 => (if t134 = true then (if 0 ≤ (wrap64 (a2 - (wrap64 (a1 * 160)))) then (if (wrap64 (a2 - (wrap64 (a1 * 160)))) ≤ (wrap64 ((wrap64 (a2 - (wrap64 (a1 * 160)))) + (mn a3 (wrap64 ((t133.size : Int) - (wrap64 (a2 - (wrap64 (a1 * 160))))))))) then (if (wrap64 ((wrap64 (a2 - (wrap64 (a1 * 160)))) + (mn a3 (wrap64 ((t133.size : Int) - (wrap64 (a2 - (wrap64 (a1 * 160))))))))) ≤ (t133.size : Int) then (some (t133.extract ((wrap64 (a2 - (wrap64 (a1 * 160)))) : Int).toNat ((wrap64 ((wrap64 (a2 - (wrap64 (a1 * 160)))) + (mn a3 (wrap64 ((t133.size : Int) - (wrap64 (a2 - (wrap64 (a1 * 160))))))))) : Int).toNat, 0)) else (none)) else (none)) else (none)) else (some ((⟨#[]⟩ : ByteArray), 4)))))) = some (r1, r2) := by rw [if_neg (show ¬ (false = true) by decide)] at H; exact H
        clear H
        have H := H1
        clear H1
        replace H := Option.bind_eq_some_iff.mp H
        obtain ⟨t133, A150, H⟩ := H
        replace H : (if (wrap64 (a2 - (wrap64 (a1 * 160)))) > (t133.size : Int) then (some ((⟨#[]⟩ : ByteArray), 2)) else ((blob_formed.f kj4 l0).bind fun t134 => (if t134 = true then (if 0 ≤ (wrap64 (a2 - (wrap64 (a1 * 160)))) then (if (wrap64 (a2 - (wrap64 (a1 * 160)))) ≤ (wrap64 ((wrap64 (a2 - (wrap64 (a1 * 160)))) + (mn a3 (wrap64 ((t133.size : Int) - (wrap64 (a2 - (wrap64 (a1 * 160))))))))) then (if (wrap64 ((wrap64 (a2 - (wrap64 (a1 * 160)))) + (mn a3 (wrap64 ((t133.size : Int) - (wrap64 (a2 - (wrap64 (a1 * 160))))))))) ≤ (t133.size : Int) then (some (t133.extract ((wrap64 (a2 - (wrap64 (a1 * 160)))) : Int).toNat ((wrap64 ((wrap64 (a2 - (wrap64 (a1 * 160)))) + (mn a3 (wrap64 ((t133.size : Int) - (wrap64 (a2 - (wrap64 (a1 * 160))))))))) : Int).toNat, 0)) else (none)) else (none)) else (none)) else (some ((⟨#[]⟩ : ByteArray), 4))))) = some (r1, r2) := H
        have A15 := Aside0.mk A150
        clear A150
        by_cases c16 : (wrap64 (a2 - (wrap64 (a1 * 160)))) > (t133.size : Int)
        · rw [if_pos c16] at H
          have c16b0 : decide ((t133.size : Int) < (wrap64 (a2 - (wrap64 (a1 * 160))))) = true := decide_eq_true c16
          clear c16
          simp only [Option.some.injEq, Prod.mk.injEq] at H
          obtain ⟨rfl, rfl⟩ := H
          go_wp2_with (first | ((with_reducible refine gate_callee (f := 22) rfl ?_); refine goesL_ (some 29) rfl rfl Try.func22 (by kernel_rfl) rfl #[.slice A0 l0.length c0, .string (⟨#[]⟩ : ByteArray)] rfl (by (try simp only [List.map_toArray, List.map_cons, List.map_nil]); first | done | rfl | (simp only [List.length_drop, List.length_take]; rfl)) ?_; (with_reducible refine (strings_Join.calls _ _ l0 (⟨#[]⟩ : ByteArray) t133 _ ?side1 ?side2 A15.out).mono ?_); (case side1 => repeat (first | exact (Kd.C_below HR0.out HB.out) | (with_reducible refine Kd.C_alloc ?_ _) | (with_reducible refine Kd.C_drewN ?_ _) | (with_reducible refine Kd.C_drew ?_))); (case side2 => exact HC0.out); rintro e w17 ⟨rfl, hb⟩; refine ⟨_, rfl, ?_⟩; have n0_ := Aside0.mk (below_step (by repeat (first | (with_reducible first | exact HB.out | apply below_alloc | apply pw_below_drewN | apply below_drew1) | exact HB.out)) hb); clear HB; have HB := n0_; clear n0_; (try clear hb); (try clear hb2); (try clear hk); (try clear hi)))
          go_ret2
          exact ⟨by first | rfl | (simp [errW_none, errW_some] <;> rfl) | (simp [*, errW_none, errW_some] <;> rfl), by repeat (first | (with_reducible first | exact HB.out | apply below_alloc | apply pw_below_drewN | apply below_drew1) | exact HB.out)⟩
        · rw [if_neg c16] at H
          have c16b0 : decide ((t133.size : Int) < (wrap64 (a2 - (wrap64 (a1 * 160))))) = false := decide_eq_false c16
          clear c16
          replace H := Option.bind_eq_some_iff.mp H
          obtain ⟨t134, A180, H⟩ := H
          replace H : (if t134 = true then (if 0 ≤ (wrap64 (a2 - (wrap64 (a1 * 160)))) then (if (wrap64 (a2 - (wrap64 (a1 * 160)))) ≤ (wrap64 ((wrap64 (a2 - (wrap64 (a1 * 160)))) + (mn a3 (wrap64 ((t133.size : Int) - (wrap64 (a2 - (wrap64 (a1 * 160))))))))) then (if (wrap64 ((wrap64 (a2 - (wrap64 (a1 * 160)))) + (mn a3 (wrap64 ((t133.size : Int) - (wrap64 (a2 - (wrap64 (a1 * 160))))))))) ≤ (t133.size : Int) then (some (t133.extract ((wrap64 (a2 - (wrap64 (a1 * 160)))) : Int).toNat ((wrap64 ((wrap64 (a2 - (wrap64 (a1 * 160)))) + (mn a3 (wrap64 ((t133.size : Int) - (wrap64 (a2 - (wrap64 (a1 * 160))))))))) : Int).toNat, 0)) else (none)) else (none)) else (none)) else (some ((⟨#[]⟩ : ByteArray), 4))) = some (r1, r2) := H
          have A18 := Aside0.mk A180
          clear A180
          by_cases c19 : t134 = true
          · subst c19
            have H1 : (if 0 ≤ (wrap64 (a2 - (wrap64 (a1 * 160)))) then (if (wrap64 (a2 - (wrap64 (a1 * 160)))) ≤ (wrap64 ((wrap64 (a2 - (wrap64 (a1 * 160)))) + (mn a3 (wrap64 ((t133.size : Int) - (wrap64 (a2 - (wrap64 (a1 * 160))))))))) then (if (wrap64 ((wrap64 (a2 - (wrap64 (a1 * 160)))) + (mn a3 (wrap64 ((t133.size : Int) - (wrap64 (a2 - (wrap64 (a1 * 160))))))))) ≤ (t133.size : Int) then (some (t133.extract ((wrap64 (a2 - (wrap64 (a1 * 160)))) : Int).toNat ((wrap64 ((wrap64 (a2 - (wrap64 (a1 * 160)))) + (mn a3 (wrap64 ((t133.size : Int) - (wrap64 (a2 - (wrap64 (a1 * 160))))))))) : Int).toNat, 0)) else (none)) else (none)) else (none)) = some (r1, r2) := by rw [if_pos rfl] at H; exact H
            clear H
            have H := H1
            clear H1
            obtain ⟨ji20, hji20⟩ : ∃ j_ : Int, (mn a3 (wrap64 ((t133.size : Int) - (wrap64 (a2 - (wrap64 (a1 * 160))))))) = j_ := ⟨_, rfl⟩
            replace H : (if 0 ≤ (wrap64 (a2 - (wrap64 (a1 * 160)))) then (if (wrap64 (a2 - (wrap64 (a1 * 160)))) ≤ (wrap64 ((wrap64 (a2 - (wrap64 (a1 * 160)))) + (ji20))) then (if (wrap64 ((wrap64 (a2 - (wrap64 (a1 * 160)))) + (ji20))) ≤ (t133.size : Int) then (some (t133.extract ((wrap64 (a2 - (wrap64 (a1 * 160)))) : Int).toNat ((wrap64 ((wrap64 (a2 - (wrap64 (a1 * 160)))) + (ji20))) : Int).toNat, 0)) else (none)) else (none)) else (none)) = some (r1, r2) := by first | (rw [hji20] at H; exact H) | (simp only [hji20] at H ⊢; exact H)
            (try rw [hji20] at A15)
            (try rw [hji20] at A18)
            have hji20_ : (if (wrap64 ((t133.size : Int) - (wrap64 (a2 - (wrap64 (a1 * 160)))))) < a3 then (wrap64 ((t133.size : Int) - (wrap64 (a2 - (wrap64 (a1 * 160)))))) else a3) = ji20 := hji20
            obtain ⟨ji21, hji21⟩ : ∃ j_ : Int, (wrap64 (a2 - (wrap64 (a1 * 160)))) = j_ := ⟨_, rfl⟩
            replace H : (if 0 ≤ (ji21) then (if (ji21) ≤ (wrap64 ((ji21) + (ji20))) then (if (wrap64 ((ji21) + (ji20))) ≤ (t133.size : Int) then (some (t133.extract ((ji21) : Int).toNat ((wrap64 ((ji21) + (ji20))) : Int).toNat, 0)) else (none)) else (none)) else (none)) = some (r1, r2) := by first | (rw [hji21] at H; exact H) | (simp only [hji21] at H ⊢; exact H)
            (try rw [hji21] at c16b0)
            (try rw [hji21] at A15)
            (try rw [hji21] at A18)
            (try rw [hji21] at hji20_)
            have hji21w : (IntKind.i64.wrap (a2 - (wrap64 (a1 * 160)))) = ji21 := (i64_w _).trans hji21
            by_cases c22 : 0 ≤ (ji21)
            · rw [if_pos c22] at H
              have c22b0 := eq_true c22
              have c22b1 : decide (0 ≤ (ji21)) = true := decide_eq_true c22
              clear c22
              by_cases c23 : (ji21) ≤ (wrap64 ((ji21) + (ji20)))
              · rw [if_pos c23] at H
                have c23b0 := eq_true c23
                have c23b1 : decide ((ji21) ≤ (wrap64 ((ji21) + (ji20)))) = true := decide_eq_true c23
                by_cases c24 : (wrap64 ((ji21) + (ji20))) ≤ (t133.size : Int)
                · rw [if_pos c24] at H
                  have c24b0 := eq_true c24
                  have c24b1 : decide ((wrap64 ((ji21) + (ji20))) ≤ (t133.size : Int)) = true := decide_eq_true c24
                  simp only [Option.some.injEq, Prod.mk.injEq] at H
                  obtain ⟨rfl, rfl⟩ := H
                  go_wp2_with (first | ((with_reducible refine gate_callee (f := 22) rfl ?_); refine goesL_ (some 29) rfl rfl Try.func22 (by kernel_rfl) rfl #[.slice A0 l0.length c0, .string (⟨#[]⟩ : ByteArray)] rfl (by (try simp only [List.map_toArray, List.map_cons, List.map_nil]); first | done | rfl | (simp only [List.length_drop, List.length_take]; rfl)) ?_; (with_reducible refine (strings_Join.calls _ _ l0 (⟨#[]⟩ : ByteArray) t133 _ ?side1 ?side2 A15.out).mono ?_); (case side1 => repeat (first | exact (Kd.C_below HR0.out HB.out) | (with_reducible refine Kd.C_alloc ?_ _) | (with_reducible refine Kd.C_drewN ?_ _) | (with_reducible refine Kd.C_drew ?_))); (case side2 => exact HC0.out); rintro e w25 ⟨rfl, hb⟩; refine ⟨_, rfl, ?_⟩; have n0_ := Aside0.mk (below_step (by repeat (first | (with_reducible first | exact HB.out | apply below_alloc | apply pw_below_drewN | apply below_drew1) | exact HB.out)) hb); clear HB; have HB := n0_; clear n0_; (try clear hb); (try clear hb2); (try clear hk); (try clear hi)) | ((with_reducible refine gate_callee (f := 23) rfl ?_); refine goesL_ (some 37) rfl rfl Try.func23 (by kernel_rfl) rfl #[.slice A0 l0.length c0] rfl (by (try simp only [List.map_toArray, List.map_cons, List.map_nil]); first | done | rfl | (simp only [List.length_drop, List.length_take]; rfl)) ?_; (with_reducible refine (blob_formed.calls kj4 _ _ l0 true _ ?side1 ?side2 A18.out).mono ?_); (case side1 => repeat (first | exact (Kd.C_below HR0.out HB.out) | (with_reducible refine Kd.C_alloc ?_ _) | (with_reducible refine Kd.C_drewN ?_ _) | (with_reducible refine Kd.C_drew ?_))); (case side2 => exact HC0.out); rintro e w' ⟨rfl, ⟨nd, rfl⟩⟩; refine ⟨_, rfl, ?_⟩))
                  go_ret2
                  exact ⟨by first | rfl | (simp [errW_none, errW_some] <;> rfl) | (simp only [← hji20, ← hji21]; first | rfl | (simp [errW_none, errW_some] <;> rfl)) | (simp [*, errW_none, errW_some] <;> rfl), by repeat (first | (with_reducible first | exact HB.out | apply below_alloc | apply pw_below_drewN | apply below_drew1) | exact HB.out)⟩
                · rw [if_neg c24] at H
                  exact absurd H (by simp)
              · rw [if_neg c23] at H
                exact absurd H (by simp)
            · rw [if_neg c22] at H
              exact absurd H (by simp)
          · replace c19 := Bool.eq_false_iff.mpr c19
            subst c19
            have H1 : (some ((⟨#[]⟩ : ByteArray), 4)) = some (r1, r2) := by rw [if_neg (show ¬ (false = true) by decide)] at H; exact H
            clear H
            have H := H1
            clear H1
            simp only [Option.some.injEq, Prod.mk.injEq] at H
            obtain ⟨rfl, rfl⟩ := H
            go_wp2_with (first | ((with_reducible refine gate_callee (f := 22) rfl ?_); refine goesL_ (some 29) rfl rfl Try.func22 (by kernel_rfl) rfl #[.slice A0 l0.length c0, .string (⟨#[]⟩ : ByteArray)] rfl (by (try simp only [List.map_toArray, List.map_cons, List.map_nil]); first | done | rfl | (simp only [List.length_drop, List.length_take]; rfl)) ?_; (with_reducible refine (strings_Join.calls _ _ l0 (⟨#[]⟩ : ByteArray) t133 _ ?side1 ?side2 A15.out).mono ?_); (case side1 => repeat (first | exact (Kd.C_below HR0.out HB.out) | (with_reducible refine Kd.C_alloc ?_ _) | (with_reducible refine Kd.C_drewN ?_ _) | (with_reducible refine Kd.C_drew ?_))); (case side2 => exact HC0.out); rintro e w26 ⟨rfl, hb⟩; refine ⟨_, rfl, ?_⟩; have n0_ := Aside0.mk (below_step (by repeat (first | (with_reducible first | exact HB.out | apply below_alloc | apply pw_below_drewN | apply below_drew1) | exact HB.out)) hb); clear HB; have HB := n0_; clear n0_; (try clear hb); (try clear hb2); (try clear hk); (try clear hi)) | ((with_reducible refine gate_callee (f := 23) rfl ?_); refine goesL_ (some 37) rfl rfl Try.func23 (by kernel_rfl) rfl #[.slice A0 l0.length c0] rfl (by (try simp only [List.map_toArray, List.map_cons, List.map_nil]); first | done | rfl | (simp only [List.length_drop, List.length_take]; rfl)) ?_; (with_reducible refine (blob_formed.calls kj4 _ _ l0 false _ ?side1 ?side2 A18.out).mono ?_); (case side1 => repeat (first | exact (Kd.C_below HR0.out HB.out) | (with_reducible refine Kd.C_alloc ?_ _) | (with_reducible refine Kd.C_drewN ?_ _) | (with_reducible refine Kd.C_drew ?_))); (case side2 => exact HC0.out); rintro e w' ⟨rfl, ⟨nd, rfl⟩⟩; refine ⟨_, rfl, ?_⟩))
            go_ret2
            exact ⟨by first | rfl | (simp [errW_none, errW_some] <;> rfl) | (simp [*, errW_none, errW_some] <;> rfl), by repeat (first | (with_reducible first | exact HB.out | apply below_alloc | apply pw_below_drewN | apply below_drew1) | exact HB.out)⟩

end Go.Proofs.Ytlbfegnmkddlbaa.A
