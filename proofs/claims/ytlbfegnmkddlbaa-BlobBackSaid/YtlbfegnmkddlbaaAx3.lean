-- Written for this claim by a program of the session: the kit's printer with hand-written contracts put in. Lean checks it.
import Derived.Test.YtlbfegnmkddlbaaAx0
import Derived.Test.YtlbfegnmkddlbaaAx1
namespace Go.Proofs.Ytlbfegnmkddlbaa.A
open Go.RowKit Go.Proofs.YtlbfegnmkddlbaaW.PrintWords Go.Proofs.YtlbfegnmkddlbaaW.PrintLast Go.Proofs.YtlbfegnmkddlbaaW.PrintMore
attribute [local go_sem] max2_int min2_int max_two min_two max_three min_three max_four min_four   -- for this text's walks alone
set_option linter.unusedVariables false
set_option linter.unusedSimpArgs false

/-! ### strings_Join: function 22, by hand: of any strings, with nothing between them -/
/-- How many bytes strings have. -/
def lensB (l : List ByteArray) : Nat := (l.map (·.size)).sum
/-- The bytes of strings, one behind the other. -/
def catB (l : List ByteArray) : List UInt8 := (l.map (·.data.toList)).flatten
theorem lensB_take (l : List ByteArray) (i : Nat) (h : i < l.length) : lensB (l.take (i + 1)) = lensB (l.take i) + l[i].size := by
  unfold lensB
  rw [List.take_add_one, List.getElem?_eq_getElem h]
  simp only [Option.toList_some, List.map_append, List.map_cons, List.map_nil, List.sum_append, List.sum_cons, List.sum_nil, Nat.add_zero]
theorem lensB_le (l : List ByteArray) (i : Nat) : lensB (l.take i) ≤ lensB l := by
  induction l generalizing i with
  | nil => simp
  | cons x l ih =>
    cases i with
    | zero => simp [lensB]
    | succ i =>
      have := ih i
      simp only [lensB, List.take_succ_cons, List.map_cons, List.sum_cons] at this ⊢
      omega
theorem catB_take (l : List ByteArray) (i : Nat) (h : i < l.length) : catB (l.take (i + 1)) = catB (l.take i) ++ l[i].data.toList := by
  unfold catB
  rw [List.take_add_one, List.getElem?_eq_getElem h]
  simp only [Option.toList_some, List.map_append, List.map_cons, List.map_nil, List.flatten_append, List.flatten_cons, List.flatten_nil, List.append_nil]
theorem catB_length (l : List ByteArray) : (catB l).length = lensB l := by
  induction l with
  | nil => rfl
  | cons x l ih =>
    have e : x.data.toList.length = x.size := rfl
    simp only [catB, lensB, List.map_cons, List.flatten_cons, List.length_append, List.sum_cons] at ih ⊢
    rw [ih, e]
theorem rdOf_at (l : List ByteArray) (i : Nat) (h : i < l.length) : rdOf ByteArray.empty l (i : Int) = l[i] := by
  simp [rdOf, List.getElem?_eq_getElem h]
theorem strCells_none (l : List Value) : l ++ Lib.strCells ⟨#[]⟩ = l := by
  rw [show Lib.strCells ⟨#[]⟩ = [] from rfl, List.append_nil]
theorem addr_add0 (ad : Addr) : ad.add 0 = ad := by cases ad; rfl
set_option maxHeartbeats 4000000 in
set_option maxRecDepth 100000 in
theorem join_many (A0 : Option Addr) (c0 : Nat) (l0 : List ByteArray) (w : World) (hr0 : Kd.C Kd.string w A0 l0.length l0) (hc0 : l0.length ≤ c0) (h2 : 2 ≤ l0.length) (hl : lensB l0 ≤ 140737488355328) :
    Calls Try.prog 22 #[.slice A0 l0.length c0, .string ⟨#[]⟩] w fun e w' => e = .returned (.string ⟨(catB l0).toArray⟩) ∧ Below w.heap.size w w' := by
  have HM : Aside0 (l0.length ≤ 9223372036854775807) := ⟨Kd.C_max hr0⟩
  have HR0 := Aside0.mk hr0
  have HC0 := Aside0.mk hc0
  have H2 := Aside0.mk h2
  have HL := Aside0.mk hl
  have hne0 : ((l0.length : Int) == 0) = false := beq_eq_false_iff_ne.2 (by omega)
  have hne1 : ((l0.length : Int) == 1) = false := beq_eq_false_iff_ne.2 (by omega)
  clear hr0 hc0 h2 hl
  go_enter Try.func22, Try.ntmps22
  go_wp2
  go_loopg [5, 41] (l0.length + 1) (fun kq v5 v41 w' => ∃ (i : Nat), v41 = .int .i64 (i : Int) ∧ v5 = .int .i64 (lensB (l0.take i) : Int) ∧ Aside0 (i ≤ l0.length) ∧ Aside0 (i + kq = l0.length + 1) ∧ Drawn0 w w')
  case atStart => exact ⟨0, rfl, by simp [lensB], ⟨Nat.zero_le _⟩, ⟨by omega⟩, by repeat (first | exact Drawn0.refl _ | apply Drawn0.step)⟩
  case round =>
    obtain ⟨i, rfl, rfl, HI, HK, ⟨m1, rfl⟩⟩ := hrel
    by_cases hlt : i < l0.length
    · have hd : decide ((i : Int) < (l0.length : Int)) = true := decide_eq_true (by omega)
      obtain ⟨ad, e1, hx⟩ := Kd.at_string HR0.out (i : Int) (by omega) (by omega)
      cases e1
      rw [rdOf_at l0 i hlt, Int.toNat_natCast] at hx
      have hle := lensB_le l0 (i + 1)
      have hst := lensB_take l0 i hlt
      have hL := HL.out
      have hgt : decide (wrap64 (9223372036854775807 - (lensB (l0.take i) : Int)) < (l0[i].size : Int)) = false := decide_eq_false (by unfold wrap64; omega)
      have p1 : ((0 : Int) ≤ (i : Int)) = True := eq_true (by omega)
      have q1 : ((i : Int) < (l0.length : Int)) = True := eq_true (by omega)
      cases gk with
      | zero => exact absurd HK.out (by omega)
      | succ k1 =>
        have HN : Aside0 ((wrap64 ((lensB (l0.take i) : Int) + (l0[i].size : Int))) = (lensB (l0.take (i + 1)) : Int)) := ⟨by unfold wrap64; omega⟩
        have HN1 : Aside0 (wrap64 ((i : Int) + 1) = ((i + 1 : Nat) : Int)) := ⟨by have := HM.out; unfold wrap64; omega⟩
        clear hle hst hL
        go_wp2
        go_roundg k1
        case measure => exact Nat.lt_succ_self _
        case rel => exact ⟨i + 1, by first | exact congrArg (Value.int IntKind.i64) HN1.out | exact HN1.out, by first | exact congrArg (Value.int IntKind.i64) HN.out | exact HN.out, ⟨by omega⟩, ⟨by have := HK.out; omega⟩, by repeat (first | exact Drawn0.refl _ | apply Drawn0.step)⟩
    · have hd : decide ((i : Int) < (l0.length : Int)) = false := decide_eq_false (by omega)
      have e : i = l0.length := by have := HI.out; omega
      subst e
      rw [List.take_length]
      obtain ⟨ad, e1, hx⟩ := Kd.at_string HR0.out 0 (by decide) (by have := H2.out; omega)
      cases e1
      have hx0 := hx
      rw [show (0 : Int) = ((0 : Nat) : Int) from rfl, rdOf_at l0 0 (by have := H2.out; omega), Int.toNat_natCast] at hx0
      clear hx
      have HX0 := Aside0.mk hx0
      clear hx0
      have hp : ((0 : Int) < (l0.length : Int)) = True := eq_true (by have := H2.out; omega)
      have hp2 : (0 < l0.length) = True := eq_true (by have := H2.out; omega)
      have hp4 : ((1 : Int) ≤ (l0.length : Int)) = True := eq_true (by have := H2.out; omega)
      have hp3 : (c0 = 1) = False := eq_false (by have := H2.out; have := HC0.out; omega)
      go_wp2_with (go_at_call 29; go_loud (refine (Try.Builder_Grow_fresh w.heap.size w.heap.size (lensB l0) _ (Nat.le_refl _) (heap_alloc_new (w.drewN m1) _) (by simp) (by have := HL.out; omega)).mono ?_; rintro e w1 ⟨rfl, h1, hb1⟩; have HB1 := Aside0.mk (((pw_below_drewN (Below.refl w.heap.size w) m1).alloc (Nat.le_refl _) _).trans hb1); have HI1 := Aside0.mk (Or.inr h1 : Lib.IsBuilder 63 5 w.heap.size w.heap.size [] w1); have HC1 := Kd.C_below HR0.out HB1.out; have hx1 : w1.cell? ad = some (.string (l0[0]'(by have := H2.out; omega))) := (by obtain ⟨ad', e', h'⟩ := Kd.at_string HC1 0 (by decide) (by have := H2.out; omega); cases e'; rw [show (0 : Int) = ((0 : Nat) : Int) from rfl, rdOf_at l0 0 (by have := H2.out; omega), Int.toNat_natCast] at h'; rw [addr_add0] at h'; exact h'); clear hb1 h1 HC1))
      go_wp2_with (go_at_call 30; go_loud (refine (Try.Builder_WriteString w.heap.size w.heap.size _ _ w1 HI1.out ?hL (HB1.out.size)).mono ?_; (case hL => have h1 := lensB_le l0 (0 + 1); have h2 := lensB_take l0 0 (by have := H2.out; omega); have h3 := HL.out; simp only [List.length_nil]; omega); rintro e w2 ⟨rfl, h2, hb2⟩; have HB2 := Aside0.mk (HB1.out.trans hb2); have HI2 := Aside0.mk (Or.inr h2 : Lib.IsBuilder 63 5 w.heap.size w.heap.size _ w2); clear hb2 h2))
      go_loopg [65] l0.length (fun kq v65 w' => ∃ (i : Nat), v65 = .int .i64 (i : Int) ∧ Aside0 (i + kq = l0.length) ∧ Aside0 (i + 1 ≤ l0.length) ∧ Aside0 (Lib.IsBuilder 63 5 w.heap.size w.heap.size (Lib.byteCells (catB (l0.take (i + 1)))) w') ∧ Aside0 (Below w.heap.size w w'))
      case atStart =>
        refine ⟨0, rfl, ⟨by omega⟩, ⟨by have := H2.out; omega⟩, ⟨?_⟩, HB2⟩
        have e : Lib.byteCells (catB (l0.take (0 + 1))) = [] ++ Lib.strCells (l0[0]'(by have := H2.out; omega)) := by
          rw [catB_take l0 0 (by have := H2.out; omega)]
          rfl
        rw [e]
        exact HI2.out
      case round =>
        obtain ⟨i, rfl, HK2, HI3, HBd, HB3⟩ := hrel
        by_cases hlt : i + 1 < l0.length
        · cases gk with
          | zero => exact absurd HK2.out (by omega)
          | succ k1 =>
            have hs : (i < l0.length - 1) = True := eq_true (by omega)
            have HX : Aside0 (wr.cell? (ad.add (i + 1)) = some (.string l0[i + 1])) := ⟨by
              obtain ⟨ad', e', h'⟩ := Kd.at_string (Kd.C_below HR0.out HB3.out) ((i + 1 : Nat) : Int) (by omega) (by omega)
              cases e'
              rw [rdOf_at l0 (i + 1) hlt, Int.toNat_natCast] at h'
              exact h'⟩
            have hx : wr.cell? { block := ad.block, off := ad.off + 1 + i } = some (.string l0[i + 1]) := by
              have e : ad.add (i + 1) = { block := ad.block, off := ad.off + 1 + i } := by
                unfold Addr.add
                rw [if_neg (by omega), Nat.add_assoc, Nat.add_comm 1 i]
              rw [← e]
              exact HX.out
            have HLe : Aside0 ((Lib.byteCells (catB (l0.take (i + 1)))).length + l0[i + 1].size ≤ 140737488355328) := ⟨by
              have h1 := lensB_le l0 (i + 1 + 1)
              have h2 := lensB_take l0 (i + 1) hlt
              have h3 := HL.out
              rw [Lib.byteCells_length, catB_length]
              omega⟩
            have HLe0 : Aside0 ((Lib.byteCells (catB (l0.take (i + 1)))).length + (⟨#[]⟩ : ByteArray).size ≤ 140737488355328) := ⟨by
              have h1 := HLe.out
              have e0 : (⟨#[]⟩ : ByteArray).size = 0 := rfl
              omega⟩
            obtain ⟨y, hy⟩ : ∃ y, l0[i + 1] = y := ⟨_, rfl⟩
            rw [hy] at hx HLe
            have HE : Aside0 (Lib.byteCells (catB (l0.take (i + 1))) ++ Lib.strCells y = Lib.byteCells (catB (l0.take (i + 1 + 1)))) := ⟨by
              rw [catB_take l0 (i + 1) hlt, Lib.byteCells_append, hy]
              rfl⟩
            clear hy
            clear HX
            have C1 := Aside0.mk (Try.Builder_WriteString w.heap.size w.heap.size (Lib.byteCells (catB (l0.take (i + 1)))) (⟨#[]⟩ : ByteArray) wr HBd.out HLe0.out HB3.out.size)
            go_wp2_with (go_at_call 30; fail)
            refine C1.out.mono ?_
            rintro e w4 ⟨rfl, h4, hb4⟩
            have HB4 := Aside0.mk (HB3.out.trans hb4)
            rw [strCells_none] at h4
            have HI4 : Aside0 (Lib.IsBuilder 63 5 w.heap.size w.heap.size (Lib.byteCells (catB (l0.take (i + 1)))) w4) := ⟨Or.inr h4⟩
            clear hb4 h4
            have C2 := Aside0.mk (Try.Builder_WriteString w.heap.size w.heap.size (Lib.byteCells (catB (l0.take (i + 1)))) y w4 HI4.out HLe.out HB4.out.size)
            go_wp2_with (go_at_call 30; fail)
            refine C2.out.mono ?_
            rintro e w6 ⟨rfl, h6, hb6⟩
            have HB6 := Aside0.mk (HB4.out.trans hb6)
            rw [HE.out] at h6
            have HI6 : Aside0 (Lib.IsBuilder 63 5 w.heap.size w.heap.size (Lib.byteCells (catB (l0.take (i + 1 + 1)))) w6) := ⟨Or.inr h6⟩
            clear hb6 h6
            go_wp2
            go_roundg k1
            case measure => exact Nat.lt_succ_self _
            case rel => exact ⟨i + 1, by first | rfl | exact congrArg (Value.int IntKind.i64) (by have := HM.out; unfold wrap64; omega), ⟨by have := HK2.out; omega⟩, ⟨hlt⟩, HI6, HB6⟩
        · have hs : (i < l0.length - 1) = False := eq_false (by omega)
          have e : i + 1 = l0.length := by have := HI3.out; omega
          rw [e, List.take_length] at HBd
          go_wp2_with (first | (go_at_call 31; go_loud (refine (Try.Builder_String_any w.heap.size w.heap.size _ _ HBd.out (HB3.out.size)).mono ?_; rintro e w6 ⟨rfl, hb6⟩; have HB6 := Aside0.mk (HB3.out.trans hb6); clear hb6)))
          go_ret
          exact ⟨rfl, HB6.out⟩
set_option maxHeartbeats 4000000 in
set_option maxRecDepth 100000 in
theorem join_none (A0 : Option Addr) (c0 : Nat) (a1 : ByteArray) (w : World) :
    Calls Try.prog 22 #[.slice A0 0 c0, .string a1] w fun e w' => e = .returned (.string ⟨#[]⟩) ∧ Below w.heap.size w w' := by
  go_enter Try.func22, Try.ntmps22
  go_wp2
  go_ret
  exact ⟨rfl, by repeat (first | exact Below.refl _ _ | apply pw_below_drewN)⟩
set_option maxHeartbeats 4000000 in
set_option maxRecDepth 100000 in
theorem join_one (A0 : Option Addr) (c0 : Nat) (x a1 : ByteArray) (w : World) (hr0 : Kd.C Kd.string w A0 1 [x]) :
    Calls Try.prog 22 #[.slice A0 1 c0, .string a1] w fun e w' => e = .returned (.string x) ∧ Below w.heap.size w w' := by
  obtain ⟨ad, rfl, hx⟩ := Kd.at_string hr0 0 (by decide) (by decide)
  replace hx : w.cell? ad = some (.string x) := hx
  go_enter Try.func22, Try.ntmps22
  go_wp2
  go_ret
  exact ⟨rfl, by repeat (first | exact Below.refl _ _ | apply pw_below_drewN)⟩
def strings_Join.f (l0 : List ByteArray) (a1 : ByteArray) : Option ByteArray := if a1.size = 0 ∧ lensB l0 ≤ 140737488355328 then some ⟨(catB l0).toArray⟩ else none
theorem strings_Join.calls (A0 : Option Addr) (c0 : Nat) (l0 : List ByteArray) (a1 : ByteArray) (r : ByteArray) (w : World) (hr0 : Kd.C Kd.string w A0 l0.length l0) (hc0 : l0.length ≤ c0) (h : strings_Join.f l0 a1 = some r) :
    Calls Try.prog 22 #[.slice A0 l0.length c0, .string a1] w fun e w' => e = .returned (.string r) ∧ Below w.heap.size w w' := by
  unfold strings_Join.f at h
  by_cases hc : a1.size = 0 ∧ lensB l0 ≤ 140737488355328
  · rw [if_pos hc] at h
    obtain rfl := Option.some.inj h
    obtain ⟨h0, hl⟩ := hc
    have e1 : a1 = ⟨#[]⟩ := by
      apply ByteArray.ext
      exact Array.eq_empty_of_size_eq_zero h0
    subst e1
    match l0, hr0, hc0, hl with
    | [], _, _, _ => exact join_none A0 c0 _ w
    | [x], hr0, _, _ =>
      have e : (⟨(catB [x]).toArray⟩ : ByteArray) = x := by
        apply ByteArray.ext
        simp [catB]
      rw [e]
      exact join_one A0 c0 x _ w hr0
    | x :: y :: l, hr0, hc0, hl => exact join_many A0 c0 (x :: y :: l) w hr0 hc0 (by simp) hl
  · rw [if_neg hc] at h
    exact absurd h (by simp)

/-! ### blob_formed: function 23 -/
def blob_formed.l0 : Nat → List ByteArray → List ByteArray → Int → Int → Option (Bool)
  | 0, _, _, _, _ => none
  | k + 1, x0, x5, x6, x7 => if x7 < x6 then (if 0 ≤ x7 then (if x7 < (x5.length : Int) then (if ((rdOf ByteArray.empty x5 x7).size : Int) = 0 then (some false) else (if ((rdOf ByteArray.empty x5 x7).size : Int) > 160 then (some false) else (if x7 < (wrap64 ((x0.length : Int) - 1)) then (if ((rdOf ByteArray.empty x5 x7).size : Int) < 160 then (some false) else (blob_formed.l0 k x0 x5 x6 (wrap64 (x7 + 1)))) else (blob_formed.l0 k x0 x5 x6 (wrap64 (x7 + 1)))))) else (none)) else (none)) else (some true)
def blob_formed.f (k : Nat) (l0 : List ByteArray) : Option (Bool) := blob_formed.l0 k l0 l0 (l0.length : Int) 0
theorem blob_formed.mono_l : ∀ k, (∀ y0 y1 y2 y3, LeO (blob_formed.l0 k y0 y1 y2 y3) (blob_formed.l0 (k + 1) y0 y1 y2 y3))
  | 0 => fun _ _ _ _ r h => by simp [blob_formed.l0] at h
  | k + 1 => by
    have ih0 := blob_formed.mono_l k
    · intro y0 y1 y2 y3
      unfold blob_formed.l0
      repeat' first
      | (with_reducible exact ih0 _ _ _ _)
      | (with_reducible exact LeO.refl _)
      | (with_reducible exact LeO.none _)
      | (with_reducible refine LeO.ite ?_ ?_)
      | (with_reducible refine LeO.bind ?_ (fun _ => ?_))
      | exact ih0 _ _ _ _
      | exact LeO.none _
      | refine LeO.ite ?_ ?_
      | refine LeO.bind ?_ (fun _ => ?_)
theorem blob_formed.mono : ∀ a0 k, LeO (blob_formed.f k a0) (blob_formed.f (k + 1) a0) := by
  intro a0 k
  have ih0 := blob_formed.mono_l k
  unfold blob_formed.f
  repeat' first
      | (with_reducible exact ih0 _ _ _ _)
      | (with_reducible exact LeO.refl _)
      | (with_reducible exact LeO.none _)
      | (with_reducible refine LeO.ite ?_ ?_)
      | (with_reducible refine LeO.bind ?_ (fun _ => ?_))
      | exact ih0 _ _ _ _
      | exact LeO.none _
      | refine LeO.ite ?_ ?_
      | refine LeO.bind ?_ (fun _ => ?_)
set_option maxHeartbeats 8000000 in
set_option maxRecDepth 100000 in
theorem blob_formed.calls (k : Nat) (A0 : Option Addr) (c0 : Nat) (l0 : List ByteArray) (r : Bool) (w : World) (hr0 : Kd.C Kd.string w A0 l0.length l0) (hc0 : l0.length ≤ c0) (h : blob_formed.f k l0 = some r) :
    Calls Try.prog 23 #[.slice A0 l0.length c0] w fun e w' => e = .returned (.bool r) ∧ Drawn0 w w' := by
  have HR0 := Aside0.mk hr0
  have HC0 := Aside0.mk hc0
  clear hr0 hc0
  have H : (blob_formed.l0 k l0 l0 (l0.length : Int) 0) = some r := h
  clear h
  have H' := Aside0.mk H
  clear H
  go_enter Try.func23, Try.ntmps23
  go_wp2
  go_loopg [7] k (fun kq v7 w' => ∃ (x7_1 : Int), v7 = .int .i64 x7_1 ∧ Aside0 (blob_formed.l0 kq l0 l0 (l0.length : Int) x7_1 = some r) ∧ Aside0 (kq ≤ k) ∧ Drawn0 w w')
  case atStart => exact ⟨(0), (by first | rfl | (simp; done) | (simp [*]; done)), H', ⟨Nat.le_refl _⟩, by repeat (first | exact Drawn0.refl _ | apply Drawn0.step)⟩
  case round =>
    clear H'
    obtain ⟨x7_1, rfl, HA, HK1, ⟨m1, rfl⟩⟩ := hrel
    cases gk with
    | zero => exact absurd HA.out (by simp [blob_formed.l0])
    | succ k1 =>
      have H := HA.out
      clear HA
      simp only [blob_formed.l0] at H
      by_cases c2 : x7_1 < (l0.length : Int)
      · rw [if_pos c2] at H
        have c2b0 : decide (x7_1 < (l0.length : Int)) = true := decide_eq_true c2
        clear c2
        by_cases c3 : 0 ≤ x7_1
        · rw [if_pos c3] at H
          have c3b0 : decide (0 ≤ x7_1) = true := decide_eq_true c3
          clear c3
          by_cases c4 : x7_1 < (l0.length : Int)
          · rw [if_pos c4] at H
            have c4b0 : decide (x7_1 < (l0.length : Int)) = true := decide_eq_true c4
            clear c4
            by_cases c5 : ((rdOf ByteArray.empty l0 x7_1).size : Int) = 0
            · rw [if_pos c5] at H
              have c5b0 : (((rdOf ByteArray.empty l0 x7_1).size : Int) == 0) = true := beq_iff_eq.mpr c5
              have c5b1 : (((rdOf ByteArray.empty l0 x7_1).size : Int) != 0) = false := bne_eq_false_iff_eq.mpr c5
              clear c5
              obtain rfl := Option.some.inj H
              have p131 : 0 ≤ (x7_1 : Int) := of_decide_eq_true (by first | (with_reducible assumption) | assumption)
              have q131 : x7_1 < (l0.length : Int) := of_decide_eq_true (by first | (with_reducible assumption) | assumption)
              obtain ⟨ad131, e131, hx131_0⟩ := Kd.at_string HR0.out x7_1 p131 q131
              cases e131
              replace p131 := eq_true p131
              replace q131 := eq_true q131
              go_wp2
              go_ret
              exact ⟨by first | rfl | (simp; done) | (simp [*]; done), by repeat (first | exact Drawn0.refl _ | apply Drawn0.step)⟩
            · rw [if_neg c5] at H
              have c5b0 : (((rdOf ByteArray.empty l0 x7_1).size : Int) == 0) = false := beq_eq_false_iff_ne.mpr c5
              have c5b1 : (((rdOf ByteArray.empty l0 x7_1).size : Int) != 0) = true := bne_iff_ne.mpr c5
              by_cases c6 : ((rdOf ByteArray.empty l0 x7_1).size : Int) > 160
              · rw [if_pos c6] at H
                have c6b0 : decide (160 < ((rdOf ByteArray.empty l0 x7_1).size : Int)) = true := decide_eq_true c6
                have c6b1 : decide (160 < (rdOf ByteArray.empty l0 x7_1).size) = true := decide_eq_true (by omega)
                clear c6
                obtain rfl := Option.some.inj H
                have p131 : 0 ≤ (x7_1 : Int) := of_decide_eq_true (by first | (with_reducible assumption) | assumption)
                have q131 : x7_1 < (l0.length : Int) := of_decide_eq_true (by first | (with_reducible assumption) | assumption)
                obtain ⟨ad131, e131, hx131_0⟩ := Kd.at_string HR0.out x7_1 p131 q131
                cases e131
                replace p131 := eq_true p131
                replace q131 := eq_true q131
                go_wp2
                go_ret
                exact ⟨by first | rfl | (simp; done) | (simp [*]; done), by repeat (first | exact Drawn0.refl _ | apply Drawn0.step)⟩
              · rw [if_neg c6] at H
                have c6b0 : decide (160 < ((rdOf ByteArray.empty l0 x7_1).size : Int)) = false := decide_eq_false c6
                have c6b1 : decide (160 < (rdOf ByteArray.empty l0 x7_1).size) = false := decide_eq_false (by omega)
                clear c6
                by_cases c7 : x7_1 < (wrap64 ((l0.length : Int) - 1))
                · rw [if_pos c7] at H
                  have c7b0 : decide (x7_1 < (wrap64 ((l0.length : Int) - 1))) = true := decide_eq_true c7
                  clear c7
                  by_cases c8 : ((rdOf ByteArray.empty l0 x7_1).size : Int) < 160
                  · rw [if_pos c8] at H
                    have c8b0 : decide (((rdOf ByteArray.empty l0 x7_1).size : Int) < 160) = true := decide_eq_true c8
                    have c8b1 : decide ((rdOf ByteArray.empty l0 x7_1).size < 160) = true := decide_eq_true (by omega)
                    clear c8
                    obtain rfl := Option.some.inj H
                    have p131 : 0 ≤ (x7_1 : Int) := of_decide_eq_true (by first | (with_reducible assumption) | assumption)
                    have q131 : x7_1 < (l0.length : Int) := of_decide_eq_true (by first | (with_reducible assumption) | assumption)
                    obtain ⟨ad131, e131, hx131_0⟩ := Kd.at_string HR0.out x7_1 p131 q131
                    cases e131
                    replace p131 := eq_true p131
                    replace q131 := eq_true q131
                    go_wp2
                    go_ret
                    exact ⟨by first | rfl | (simp; done) | (simp [*]; done), by repeat (first | exact Drawn0.refl _ | apply Drawn0.step)⟩
                  · rw [if_neg c8] at H
                    have c8b0 : decide (((rdOf ByteArray.empty l0 x7_1).size : Int) < 160) = false := decide_eq_false c8
                    have c8b1 : decide ((rdOf ByteArray.empty l0 x7_1).size < 160) = false := decide_eq_false (by omega)
                    clear c8
                    have H' := Aside0.mk H
                    clear H
                    have p131 : 0 ≤ (x7_1 : Int) := of_decide_eq_true (by first | (with_reducible assumption) | assumption)
                    have q131 : x7_1 < (l0.length : Int) := of_decide_eq_true (by first | (with_reducible assumption) | assumption)
                    obtain ⟨ad131, e131, hx131_0⟩ := Kd.at_string HR0.out x7_1 p131 q131
                    cases e131
                    replace p131 := eq_true p131
                    replace q131 := eq_true q131
                    go_wp2
                    go_roundg k1
                    case measure => have := HK1.out; omega
                    case rel => exact ⟨(wrap64 (x7_1 + 1)), (by first | rfl | (simp; done) | (simp [*]; done)), H', ⟨by have := HK1.out; omega⟩, by repeat (first | exact Drawn0.refl _ | apply Drawn0.step)⟩
                · rw [if_neg c7] at H
                  have c7b0 : decide (x7_1 < (wrap64 ((l0.length : Int) - 1))) = false := decide_eq_false c7
                  clear c7
                  have H' := Aside0.mk H
                  clear H
                  have p131 : 0 ≤ (x7_1 : Int) := of_decide_eq_true (by first | (with_reducible assumption) | assumption)
                  have q131 : x7_1 < (l0.length : Int) := of_decide_eq_true (by first | (with_reducible assumption) | assumption)
                  obtain ⟨ad131, e131, hx131_0⟩ := Kd.at_string HR0.out x7_1 p131 q131
                  cases e131
                  replace p131 := eq_true p131
                  replace q131 := eq_true q131
                  go_wp2
                  go_roundg k1
                  case measure => have := HK1.out; omega
                  case rel => exact ⟨(wrap64 (x7_1 + 1)), (by first | rfl | (simp; done) | (simp [*]; done)), H', ⟨by have := HK1.out; omega⟩, by repeat (first | exact Drawn0.refl _ | apply Drawn0.step)⟩
          · rw [if_neg c4] at H
            exact absurd H (by simp)
        · rw [if_neg c3] at H
          exact absurd H (by simp)
      · rw [if_neg c2] at H
        have c2b0 : decide (x7_1 < (l0.length : Int)) = false := decide_eq_false c2
        clear c2
        obtain rfl := Option.some.inj H
        go_wp2
        go_ret
        exact ⟨by first | rfl | (simp; done) | (simp [*]; done), by repeat (first | exact Drawn0.refl _ | apply Drawn0.step)⟩

/-! ### blob_Check: function 18, by hand -/
theorem of_bytes (s : ByteArray) (hs : s.size ≤ 9223372036854775807) (r1 r2 : Int) (h : tag_Of.f (bytesOf s) = some (r1, r2)) (W : World) (cp : Nat) (hcp : s.size ≤ cp) :
    Calls Try.prog 20 #[.slice (some ⟨W.heap.size, 0, none⟩) s.size cp] (Lib.bytesWorld W 5 s) fun e w' => e = .returned (.agg #[.int .i64 r1, .int .i64 r2]) ∧ Below W.heap.size W w' := by
  have hR : Kd.C (Kd.int .u8) (Lib.bytesWorld W 5 s) (some ⟨W.heap.size, 0, none⟩) (bytesOf s).length (bytesOf s) := by
    rw [bytesOf_length]
    exact Kd.C_of_reads (d := (0 : Int)) (h1 := fun _ => rfl) (bytes_reads W 5 s hs)
  have h2 := tag_Of.calls (some ⟨W.heap.size, 0, none⟩) cp (bytesOf s) r1 r2 (Lib.bytesWorld W 5 s) hR (by rw [bytesOf_length]; exact hcp) h
  rw [bytesOf_length] at h2
  exact h2.mono fun e w' ⟨he, hb⟩ => ⟨he, below_then (bytes_below (Below.refl _ _) (Nat.le_refl _) 5 s) (by rw [Lib.bytesWorld_size]; omega) hb⟩
theorem of_bytes_at (s : ByteArray) (hs : s.size ≤ 9223372036854775807) (r1 r2 : Int) (h : tag_Of.f (bytesOf s) = some (r1, r2)) (W : World) (g : Nat) (hg : g = W.heap.size) (cp : Nat) (hcp : s.size ≤ cp) :
    Calls Try.prog 20 #[.slice (some ⟨g, 0, none⟩) s.size cp] (Lib.bytesWorld W 5 s) fun e w' => e = .returned (.agg #[.int .i64 r1, .int .i64 r2]) ∧ Below W.heap.size W w' := by
  subst hg
  exact of_bytes s hs r1 r2 h W cp hcp
def blob_Check.f (k : Nat) (l0 : List ByteArray) (a1 : Int) (a2_0 : Int) (a2_1 : Int) : Option Int :=
  if (l0.length : Int) > 16 then some 4 else (blob_formed.f k l0).bind fun t => (if t = true then ((strings_Join.f l0 (⟨#[]⟩ : ByteArray)).bind fun s => (if (s.size : Int) = a1 then (if s.size ≤ 9223372036854775807 then ((tag_Of.f (bytesOf s)).bind fun q => (if (q.1 == a2_0 && (q.2 == a2_1)) = true then (some 0) else (some 4))) else none) else (some 4))) else (some 4))
theorem blob_Check.mono : ∀ a0 a1 a2 a3 k, LeO (blob_Check.f k a0 a1 a2 a3) (blob_Check.f (k + 1) a0 a1 a2 a3) := by
  intro a0 a1 a2 a3 k
  unfold blob_Check.f
  refine LeO.ite (LeO.refl _) (LeO.bind (blob_formed.mono _ _) fun _ => LeO.refl _)
def CkBox (a2_0 a2_1 : Int) (g : Nat) (W : World) : Prop := W.heap[g]? = some (.cells #[.int .i64 a2_0, .int .i64 a2_1] 39 (0, 0))
theorem CkBox.cell {a b : Int} {g : Nat} {W : World} (h : CkBox a b g W) : W.cell? ⟨g, 0, none⟩ = some (.int .i64 a) ∧ W.cell? ⟨g, 1, none⟩ = some (.int .i64 b) := ⟨(blk_cell h 0).trans rfl, (blk_cell h 1).trans rfl⟩
theorem CkBox.below {a b : Int} {g : Nat} {W W' : World} (h : CkBox a b g W) (hb : Below W.heap.size W W') : CkBox a b g W' := blk_below h hb
set_option maxHeartbeats 2000000 in
set_option maxRecDepth 100000 in
theorem check_long (A0 : Option Addr) (c0 : Nat) (l0 : List ByteArray) (a1 a2_0 a2_1 : Int) (w : World) (hc0 : l0.length ≤ c0) (hl : (l0.length : Int) > 16) :
    Calls Try.prog 18 #[.slice A0 l0.length c0, .int .i64 a1, .agg #[.int .i64 a2_0, .int .i64 a2_1]] w fun e w' => e = .returned (.int .i64 4) ∧ Below w.heap.size w w' := by
  have hl2 : (16 : Int) < (l0.length : Int) := hl
  go_enter Try.func18, Try.ntmps18
  go_wp2
  go_ret
  exact ⟨rfl, by repeat (first | exact Below.refl _ _ | apply below_alloc | apply pw_below_drewN)⟩
set_option maxHeartbeats 2000000 in
set_option maxRecDepth 100000 in
theorem check_unformed (k : Nat) (A0 : Option Addr) (c0 : Nat) (l0 : List ByteArray) (a1 a2_0 a2_1 : Int) (w : World) (hr0 : Kd.C Kd.string w A0 l0.length l0) (hc0 : l0.length ≤ c0) (hl : (l0.length : Int) ≤ 16) (hf : blob_formed.f k l0 = some false) :
    Calls Try.prog 18 #[.slice A0 l0.length c0, .int .i64 a1, .agg #[.int .i64 a2_0, .int .i64 a2_1]] w fun e w' => e = .returned (.int .i64 4) ∧ Below w.heap.size w w' := by
  have HR := Aside0.mk hr0
  have HF := Aside0.mk hf
  have HC := Aside0.mk hc0
  clear hr0 hf hc0
  go_enter Try.func18, Try.ntmps18
  go_wp2_with (first | (go_at_call 23; (with_reducible refine (blob_formed.calls k _ _ l0 false _ (Kd.C_alloc HR.out _) HC.out HF.out).mono ?_); rintro e w1 ⟨rfl, ⟨m1, rfl⟩⟩))
  go_ret
  exact ⟨rfl, by repeat (first | exact Below.refl _ _ | apply below_alloc | apply pw_below_drewN)⟩
set_option maxHeartbeats 2000000 in
set_option maxRecDepth 100000 in
theorem check_size (k : Nat) (A0 : Option Addr) (c0 : Nat) (l0 : List ByteArray) (a1 a2_0 a2_1 : Int) (w : World) (hr0 : Kd.C Kd.string w A0 l0.length l0) (hc0 : l0.length ≤ c0) (hl : (l0.length : Int) ≤ 16) (hf : blob_formed.f k l0 = some true) (s : ByteArray) (hj : strings_Join.f l0 (⟨#[]⟩ : ByteArray) = some s) (hs : (s.size : Int) ≠ a1) :
    Calls Try.prog 18 #[.slice A0 l0.length c0, .int .i64 a1, .agg #[.int .i64 a2_0, .int .i64 a2_1]] w fun e w' => e = .returned (.int .i64 4) ∧ Below w.heap.size w w' := by
  have HR := Aside0.mk hr0
  have HF := Aside0.mk hf
  have HJ := Aside0.mk hj
  have HC := Aside0.mk hc0
  have hs1 : ((s.size : Int) == a1) = false := beq_eq_false_iff_ne.2 hs
  have hs2 : ((s.size : Int) != a1) = true := bne_iff_ne.2 hs
  clear hr0 hf hc0 hj hs
  go_enter Try.func18, Try.ntmps18
  go_wp2_with (first | ((with_reducible refine gate_dst (N := 5) rfl ?_); refine box_event ?hg (N := 5) ?hd (cs := #[.int .i64 a2_0, .int .i64 a2_1]) (t := 39) ?hr ?_; (case hd => rfl); (case hg => rfl); (case hr => first | (go_simp; done) | (go_simp; rfl)); intro g1 hg w1 hbox hb; have HW := Aside0.mk hb; have HX := Aside0.mk hbox; clear hb hbox hg) | (go_at_call 23; (with_reducible refine (blob_formed.calls k _ _ l0 true _ (Kd.C_below HR.out HW.out) HC.out HF.out).mono ?_); rintro e w2 ⟨rfl, ⟨m1, rfl⟩⟩) | (go_at_call 22; (with_reducible refine (strings_Join.calls _ _ l0 _ s _ (Kd.C_drewN (Kd.C_below HR.out HW.out) m1) HC.out HJ.out).mono ?_); rintro e w3 ⟨rfl, hb⟩; have HW3 := Aside0.mk (below_step (pw_below_drewN HW.out m1) hb); have HX3 := Aside0.mk (blk_below (blk_drewN HX.out m1) hb); clear hb))
  go_quiet (fail)
  go_wp2
  go_ret
  exact ⟨rfl, by repeat (first | (with_reducible first | exact HW3.out | apply below_alloc | apply pw_below_drewN | apply below_drew1) | exact HW3.out)⟩
attribute [local go_sem high] eqA39
set_option maxHeartbeats 2000000 in
set_option maxRecDepth 100000 in
theorem check_tag (k : Nat) (A0 : Option Addr) (c0 : Nat) (l0 : List ByteArray) (a2_0 a2_1 : Int) (w : World) (hr0 : Kd.C Kd.string w A0 l0.length l0) (hc0 : l0.length ≤ c0) (hl : (l0.length : Int) ≤ 16) (hf : blob_formed.f k l0 = some true) (s : ByteArray) (hj : strings_Join.f l0 (⟨#[]⟩ : ByteArray) = some s) (hs : s.size ≤ 9223372036854775807) (q1 q2 : Int) (ho : tag_Of.f (bytesOf s) = some (q1, q2)) (b : Bool) (hb0 : (q1 == a2_0 && (q2 == a2_1)) = b) :
    Calls Try.prog 18 #[.slice A0 l0.length c0, .int .i64 (s.size : Int), .agg #[.int .i64 a2_0, .int .i64 a2_1]] w fun e w' => e = .returned (.int .i64 (if b = true then 0 else 4)) ∧ Below w.heap.size w w' := by
  have HR := Aside0.mk hr0
  have HF := Aside0.mk hf
  have HJ := Aside0.mk hj
  have HC := Aside0.mk hc0
  have HO := Aside0.mk ho
  have HS := Aside0.mk hs
  have kb := fun W => print_bytes (P := Try.prog) 9 49 5 Try.underlying9 Try.underlying49 Try.underlying5 s W
  clear hr0 hf hc0 hj ho hs
  cases b
  all_goals
    go_enter Try.func18, Try.ntmps18
    go_wp2_with (first | ((with_reducible refine gate_dst (N := 5) rfl ?_); refine box_event ?hg (N := 5) ?hd (cs := #[.int .i64 a2_0, .int .i64 a2_1]) (t := 39) ?hr ?_; (case hd => rfl); (case hg => rfl); (case hr => first | (go_simp; done) | (go_simp; rfl)); intro g1 hg w1 hbox hb; have HW := Aside0.mk hb; have HX := Aside0.mk hbox; clear hb hbox hg) | (go_at_call 23; (with_reducible refine (blob_formed.calls k _ _ l0 true _ (Kd.C_below HR.out HW.out) HC.out HF.out).mono ?_); rintro e w2 ⟨rfl, ⟨m1, rfl⟩⟩) | (go_at_call 22; (with_reducible refine (strings_Join.calls _ _ l0 _ s _ (Kd.C_drewN (Kd.C_below HR.out HW.out) m1) HC.out HJ.out).mono ?_); rintro e w3 ⟨rfl, hb⟩; have HW3 := Aside0.mk (below_step (pw_below_drewN HW.out m1) hb); have HX3 := Aside0.mk (blk_below (blk_drewN HX.out m1) hb); clear hb))
    have hz3 := CkBox.cell HX3.out
    have hz4 := CkBox.cell (CkBox.below (blk_drew HX3.out) (bytes_below (Below.refl _ _) (Nat.le_refl _) 5 s))
    go_region_with (first | (go_at_call 20; (with_reducible refine (of_bytes_at s HS.out q1 q2 HO.out w3.drew w3.heap.size rfl _ (grownCap_ge _ _ _ _)).mono ?_); rintro e w4 ⟨rfl, hb⟩; have HW4 := Aside0.mk (below_step (below_drew1 HW3.out) hb); have HX4 := Aside0.mk (blk_below (blk_drew HX3.out) hb); have hz5 := CkBox.cell HX4.out; clear hb))
    all_goals (go_wp2; go_ret; exact ⟨by first | rfl | (simp [*]; done), by repeat (first | (with_reducible first | exact HW4.out | apply below_alloc | apply pw_below_drewN | apply below_drew1) | exact HW4.out)⟩)
theorem blob_Check.calls (k : Nat) (A0 : Option Addr) (c0 : Nat) (l0 : List ByteArray) (a1 : Int) (a2_0 : Int) (a2_1 : Int) (r : Int) (w : World) (hr0 : Kd.C Kd.string w A0 l0.length l0) (hc0 : l0.length ≤ c0) (h : blob_Check.f k l0 a1 a2_0 a2_1 = some r) :
    Calls Try.prog 18 #[.slice A0 l0.length c0, .int .i64 a1, .agg #[.int .i64 a2_0, .int .i64 a2_1]] w fun e w' => e = .returned (.int .i64 r) ∧ Below w.heap.size w w' := by
  unfold blob_Check.f at h
  by_cases hl : (l0.length : Int) > 16
  · rw [if_pos hl] at h
    obtain rfl := Option.some.inj h
    exact check_long A0 c0 l0 a1 a2_0 a2_1 w hc0 hl
  · rw [if_neg hl] at h
    obtain ⟨t, ht, h⟩ := Option.bind_eq_some_iff.1 h
    cases t
    · rw [if_neg (by decide)] at h
      obtain rfl := Option.some.inj h
      exact check_unformed k A0 c0 l0 a1 a2_0 a2_1 w hr0 hc0 (by omega) ht
    · rw [if_pos rfl] at h
      obtain ⟨s, hs, h⟩ := Option.bind_eq_some_iff.1 h
      by_cases ha : (s.size : Int) = a1
      · rw [if_pos ha] at h
        by_cases hz : s.size ≤ 9223372036854775807
        · rw [if_pos hz] at h
          obtain ⟨⟨q1, q2⟩, hq, h⟩ := Option.bind_eq_some_iff.1 h
          have h2 := check_tag k A0 c0 l0 a2_0 a2_1 w hr0 hc0 (by omega) ht s hs hz q1 q2 hq _ rfl
          rw [ha] at h2
          have hr : (if (q1 == a2_0 && (q2 == a2_1)) = true then (0 : Int) else 4) = r := by
            simp only at h
            split at h
            · rename_i hq; rw [if_pos hq]; exact Option.some.inj h
            · rename_i hq; rw [if_neg hq]; exact Option.some.inj h
          rw [hr] at h2
          exact h2
        · rw [if_neg hz] at h
          cases h
      · rw [if_neg ha] at h
        obtain rfl := Option.some.inj h
        exact check_size k A0 c0 l0 a1 a2_0 a2_1 w hr0 hc0 (by omega) ht s hs ha

/-! ### blob_Join: function 15 -/
def blob_Join.f (k : Nat) (l0 : List ByteArray) (a1 : Int) (a2_0 : Int) (a2_1 : Int) : Option (ByteArray × Int) := (blob_Check.f k l0 a1 a2_0 a2_1).bind fun t133 => (if t133 = 0 then ((strings_Join.f l0 (⟨#[]⟩ : ByteArray)).bind fun t134 => (some (t134, 0))) else (some ((⟨#[]⟩ : ByteArray), t133)))
theorem blob_Join.mono : ∀ a0 a1 a2 a3 k, LeO (blob_Join.f k a0 a1 a2 a3) (blob_Join.f (k + 1) a0 a1 a2 a3) := by
  intro a0 a1 a2 a3 k
  unfold blob_Join.f
  repeat' first
      | (with_reducible exact blob_Check.mono _ _ _ _ _)
      | (with_reducible exact LeO.refl _)
      | (with_reducible exact LeO.none _)
      | (with_reducible refine LeO.ite ?_ ?_)
      | (with_reducible refine LeO.bind ?_ (fun _ => ?_))
      | exact blob_Check.mono _ _ _ _ _
      | exact LeO.none _
      | refine LeO.ite ?_ ?_
      | refine LeO.bind ?_ (fun _ => ?_)
set_option maxHeartbeats 8000000 in
set_option maxRecDepth 100000 in
theorem blob_Join.calls (k : Nat) (A0 : Option Addr) (c0 : Nat) (l0 : List ByteArray) (a1 : Int) (a2_0 : Int) (a2_1 : Int) (r1 : ByteArray) (r2 : Int) (w : World) (hr0 : Kd.C Kd.string w A0 l0.length l0) (hc0 : l0.length ≤ c0) (h : blob_Join.f k l0 a1 a2_0 a2_1 = some (r1, r2)) :
    Calls Try.prog 15 #[.slice A0 l0.length c0, .int .i64 a1, .agg #[.int .i64 a2_0, .int .i64 a2_1]] w fun e w' => e = .returned (.tuple #[.string r1, .int .i64 r2]) ∧ Below w.heap.size w w' := by
  have hu39 := Try.underlying39
  have HR0 := Aside0.mk hr0
  have HC0 := Aside0.mk hc0
  clear hr0 hc0
  have HB := Aside0.mk (Below.refl w.heap.size w)
  have H : ((blob_Check.f k l0 a1 a2_0 a2_1).bind fun t133 => (if t133 = 0 then ((strings_Join.f l0 (⟨#[]⟩ : ByteArray)).bind fun t134 => (some (t134, 0))) else (some ((⟨#[]⟩ : ByteArray), t133)))) = some (r1, r2) := h
  clear h
  replace H := Option.bind_eq_some_iff.mp H
  obtain ⟨t133, A40, H⟩ := H
  replace H : (if t133 = 0 then ((strings_Join.f l0 (⟨#[]⟩ : ByteArray)).bind fun t134 => (some (t134, 0))) else (some ((⟨#[]⟩ : ByteArray), t133))) = some (r1, r2) := H
  have A4 := Aside0.mk A40
  clear A40
  by_cases c5 : t133 = 0
  · rw [if_pos c5] at H
    have c5b0 : (t133 == 0) = true := beq_iff_eq.mpr c5
    have c5b1 : (t133 != 0) = false := bne_eq_false_iff_eq.mpr c5
    clear c5
    replace H := Option.bind_eq_some_iff.mp H
    obtain ⟨t134, A60, H⟩ := H
    replace H : (some (t134, 0)) = some (r1, r2) := H
    have A6 := Aside0.mk A60
    clear A60
    simp only [Option.some.injEq, Prod.mk.injEq] at H
    obtain ⟨rfl, rfl⟩ := H
    go_enter Try.func15, Try.ntmps15
    go_wp2_with (first | ((with_reducible refine gate_dst (N := 5) rfl ?_); refine box_event ?hg (N := 5) ?hd (cs := #[.int .i64 a2_0, .int .i64 a2_1]) (t := 39) ?hr ?_; (case hd => rfl); (case hg => rfl); (case hr => first | (go_simp; done) | (go_simp; rfl)); intro gb132 hg w7 hbox hb; have n0_ := Aside0.mk (below_step (by repeat (first | (with_reducible first | exact HB.out | apply below_alloc | apply pw_below_drewN | apply below_drew1) | exact HB.out)) hb); have n1_ := Aside0.mk (hbox); have n2_ := Aside0.mk ((by rw [hg]; exact (below_size (by repeat (first | (with_reducible first | exact HB.out | apply below_alloc | apply pw_below_drewN | apply below_drew1) | exact HB.out))) : w.heap.size ≤ gb132)); have n3_ := Aside0.mk ((by rw [hg]; exact (below_size (by repeat (first | (with_reducible first | exact HB.out | apply below_alloc | apply pw_below_drewN | apply below_drew1) | exact HB.out))) : w.heap.size ≤ gb132)); clear HB; have HB := n0_; have BK132 := n1_; have GW132 := n2_; have GE132 := n3_; clear n0_ n1_ n2_ n3_; clear hb hbox hg; have hcz8_0 : w7.cell? ⟨gb132, 0, none⟩ = some (.int .i64 a2_0) := (blk_cell BK132.out 0).trans rfl; have hcz8_1 : w7.cell? ⟨gb132, 1, none⟩ = some (.int .i64 a2_1) := (blk_cell BK132.out 1).trans rfl; have hfz8_0 := blk_frozen BK132.out 0; have hfz8_1 := blk_frozen BK132.out 1) | ((with_reducible refine gate_callee (f := 18) rfl ?_); refine goesL_ (some 12) rfl rfl Try.func18 (by kernel_rfl) rfl #[.slice A0 l0.length c0, .int .i64 a1, .agg #[.int .i64 a2_0, .int .i64 a2_1]] rfl (by (try simp only [List.map_toArray, List.map_cons, List.map_nil]); first | done | rfl | (simp only [List.length_drop, List.length_take]; rfl)) ?_; (with_reducible refine (blob_Check.calls k _ _ l0 a1 a2_0 a2_1 t133 _ ?side1 ?side2 A4.out).mono ?_); (case side1 => repeat (first | exact (Kd.C_below HR0.out HB.out) | (with_reducible refine Kd.C_alloc ?_ _) | (with_reducible refine Kd.C_drewN ?_ _) | (with_reducible refine Kd.C_drew ?_))); (case side2 => exact HC0.out); rintro e w9 ⟨rfl, hb⟩; refine ⟨_, rfl, ?_⟩; have n0_ := Aside0.mk (blk_below (g := gb132) (o := .cells #[.int .i64 a2_0, .int .i64 a2_1] 39 (0, 0)) (by (with_reducible repeat (first | refine blk_drewN ?_ _ | refine blk_drew ?_ | refine blk_alloc ?_ _)); exact BK132.out) hb); have n1_ := Aside0.mk (below_step (by repeat (first | (with_reducible first | exact HB.out | apply below_alloc | apply pw_below_drewN | apply below_drew1 | refine below_set ?_ GE132.out) | exact HB.out)) hb); clear BK132; clear HB; have BK132 := n0_; have HB := n1_; clear n0_ n1_; (try clear hb); (try clear hb2); (try clear hk); (try clear hi)) | ((with_reducible refine gate_callee (f := 22) rfl ?_); refine goesL_ (some 17) rfl rfl Try.func22 (by kernel_rfl) rfl #[.slice A0 l0.length c0, .string (⟨#[]⟩ : ByteArray)] rfl (by (try simp only [List.map_toArray, List.map_cons, List.map_nil]); first | done | rfl | (simp only [List.length_drop, List.length_take]; rfl)) ?_; (with_reducible refine (strings_Join.calls _ _ l0 (⟨#[]⟩ : ByteArray) t134 _ ?side1 ?side2 A6.out).mono ?_); (case side1 => repeat (first | exact (Kd.C_below HR0.out HB.out) | (with_reducible refine Kd.C_alloc ?_ _) | (with_reducible refine Kd.C_drewN ?_ _) | (with_reducible refine Kd.C_drew ?_))); (case side2 => exact HC0.out); rintro e w10 ⟨rfl, hb⟩; refine ⟨_, rfl, ?_⟩; have n0_ := Aside0.mk (blk_below (g := gb132) (o := .cells #[.int .i64 a2_0, .int .i64 a2_1] 39 (0, 0)) (by (with_reducible repeat (first | refine blk_drewN ?_ _ | refine blk_drew ?_ | refine blk_alloc ?_ _)); exact BK132.out) hb); have n1_ := Aside0.mk (below_step (by repeat (first | (with_reducible first | exact HB.out | apply below_alloc | apply pw_below_drewN | apply below_drew1 | refine below_set ?_ GE132.out) | exact HB.out)) hb); clear BK132; clear HB; have BK132 := n0_; have HB := n1_; clear n0_ n1_; (try clear hb); (try clear hb2); (try clear hk); (try clear hi)))
    go_ret2
    exact ⟨by first | rfl | (simp [errW_none, errW_some] <;> rfl) | (simp [*, errW_none, errW_some] <;> rfl), by repeat (first | (with_reducible first | exact HB.out | apply below_alloc | apply pw_below_drewN | apply below_drew1 | refine below_set ?_ GE132.out) | exact HB.out)⟩
  · rw [if_neg c5] at H
    have c5b0 : (t133 == 0) = false := beq_eq_false_iff_ne.mpr c5
    have c5b1 : (t133 != 0) = true := bne_iff_ne.mpr c5
    simp only [Option.some.injEq, Prod.mk.injEq] at H
    obtain ⟨rfl, rfl⟩ := H
    go_enter Try.func15, Try.ntmps15
    go_wp2_with (first | ((with_reducible refine gate_dst (N := 5) rfl ?_); refine box_event ?hg (N := 5) ?hd (cs := #[.int .i64 a2_0, .int .i64 a2_1]) (t := 39) ?hr ?_; (case hd => rfl); (case hg => rfl); (case hr => first | (go_simp; done) | (go_simp; rfl)); intro gb132 hg w11 hbox hb; have n0_ := Aside0.mk (below_step (by repeat (first | (with_reducible first | exact HB.out | apply below_alloc | apply pw_below_drewN | apply below_drew1) | exact HB.out)) hb); have n1_ := Aside0.mk (hbox); have n2_ := Aside0.mk ((by rw [hg]; exact (below_size (by repeat (first | (with_reducible first | exact HB.out | apply below_alloc | apply pw_below_drewN | apply below_drew1) | exact HB.out))) : w.heap.size ≤ gb132)); have n3_ := Aside0.mk ((by rw [hg]; exact (below_size (by repeat (first | (with_reducible first | exact HB.out | apply below_alloc | apply pw_below_drewN | apply below_drew1) | exact HB.out))) : w.heap.size ≤ gb132)); clear HB; have HB := n0_; have BK132 := n1_; have GW132 := n2_; have GE132 := n3_; clear n0_ n1_ n2_ n3_; clear hb hbox hg; have hcz12_0 : w11.cell? ⟨gb132, 0, none⟩ = some (.int .i64 a2_0) := (blk_cell BK132.out 0).trans rfl; have hcz12_1 : w11.cell? ⟨gb132, 1, none⟩ = some (.int .i64 a2_1) := (blk_cell BK132.out 1).trans rfl; have hfz12_0 := blk_frozen BK132.out 0; have hfz12_1 := blk_frozen BK132.out 1) | ((with_reducible refine gate_callee (f := 18) rfl ?_); refine goesL_ (some 12) rfl rfl Try.func18 (by kernel_rfl) rfl #[.slice A0 l0.length c0, .int .i64 a1, .agg #[.int .i64 a2_0, .int .i64 a2_1]] rfl (by (try simp only [List.map_toArray, List.map_cons, List.map_nil]); first | done | rfl | (simp only [List.length_drop, List.length_take]; rfl)) ?_; (with_reducible refine (blob_Check.calls k _ _ l0 a1 a2_0 a2_1 t133 _ ?side1 ?side2 A4.out).mono ?_); (case side1 => repeat (first | exact (Kd.C_below HR0.out HB.out) | (with_reducible refine Kd.C_alloc ?_ _) | (with_reducible refine Kd.C_drewN ?_ _) | (with_reducible refine Kd.C_drew ?_))); (case side2 => exact HC0.out); rintro e w13 ⟨rfl, hb⟩; refine ⟨_, rfl, ?_⟩; have n0_ := Aside0.mk (blk_below (g := gb132) (o := .cells #[.int .i64 a2_0, .int .i64 a2_1] 39 (0, 0)) (by (with_reducible repeat (first | refine blk_drewN ?_ _ | refine blk_drew ?_ | refine blk_alloc ?_ _)); exact BK132.out) hb); have n1_ := Aside0.mk (below_step (by repeat (first | (with_reducible first | exact HB.out | apply below_alloc | apply pw_below_drewN | apply below_drew1 | refine below_set ?_ GE132.out) | exact HB.out)) hb); clear BK132; clear HB; have BK132 := n0_; have HB := n1_; clear n0_ n1_; (try clear hb); (try clear hb2); (try clear hk); (try clear hi)))
    go_ret2
    exact ⟨by first | rfl | (simp [errW_none, errW_some] <;> rfl) | (simp [*, errW_none, errW_some] <;> rfl), by repeat (first | (with_reducible first | exact HB.out | apply below_alloc | apply pw_below_drewN | apply below_drew1 | refine below_set ?_ GE132.out) | exact HB.out)⟩

/-! ### ambryref19_Same: function 17 -/
def ambryref19_Same.l0 : Nat → List ByteArray → List ByteArray → Int → Option (Bool)
  | 0, _, _, _ => none
  | k + 1, x0, x1, x5 => if x5 < (x0.length : Int) then (if 0 ≤ x5 then (if x5 < (x1.length : Int) then (if (rdOf ByteArray.empty x0 x5).toList = (rdOf ByteArray.empty x1 x5).toList then (ambryref19_Same.l0 k x0 x1 (wrap64 (x5 + 1))) else (some false)) else (none)) else (none)) else (some true)
def ambryref19_Same.f (k : Nat) (l0 : List ByteArray) (l1 : List ByteArray) : Option (Bool) := if (l0.length : Int) = (l1.length : Int) then (ambryref19_Same.l0 k l0 l1 0) else (some false)
theorem ambryref19_Same.mono_l : ∀ k, (∀ y0 y1 y2, LeO (ambryref19_Same.l0 k y0 y1 y2) (ambryref19_Same.l0 (k + 1) y0 y1 y2))
  | 0 => fun _ _ _ r h => by simp [ambryref19_Same.l0] at h
  | k + 1 => by
    have ih0 := ambryref19_Same.mono_l k
    · intro y0 y1 y2
      unfold ambryref19_Same.l0
      repeat' first
      | (with_reducible exact ih0 _ _ _)
      | (with_reducible exact LeO.refl _)
      | (with_reducible exact LeO.none _)
      | (with_reducible refine LeO.ite ?_ ?_)
      | (with_reducible refine LeO.bind ?_ (fun _ => ?_))
      | exact ih0 _ _ _
      | exact LeO.none _
      | refine LeO.ite ?_ ?_
      | refine LeO.bind ?_ (fun _ => ?_)
theorem ambryref19_Same.mono : ∀ a0 a1 k, LeO (ambryref19_Same.f k a0 a1) (ambryref19_Same.f (k + 1) a0 a1) := by
  intro a0 a1 k
  have ih0 := ambryref19_Same.mono_l k
  unfold ambryref19_Same.f
  repeat' first
      | (with_reducible exact ih0 _ _ _)
      | (with_reducible exact LeO.refl _)
      | (with_reducible exact LeO.none _)
      | (with_reducible refine LeO.ite ?_ ?_)
      | (with_reducible refine LeO.bind ?_ (fun _ => ?_))
      | exact ih0 _ _ _
      | exact LeO.none _
      | refine LeO.ite ?_ ?_
      | refine LeO.bind ?_ (fun _ => ?_)
set_option maxHeartbeats 8000000 in
set_option maxRecDepth 100000 in
theorem ambryref19_Same.calls (k : Nat) (A0 : Option Addr) (c0 : Nat) (l0 : List ByteArray) (A1 : Option Addr) (c1 : Nat) (l1 : List ByteArray) (r : Bool) (w : World) (hr0 : Kd.C Kd.string w A0 l0.length l0) (hc0 : l0.length ≤ c0) (hr1 : Kd.C Kd.string w A1 l1.length l1) (hc1 : l1.length ≤ c1) (h : ambryref19_Same.f k l0 l1 = some r) :
    Calls Try.prog 17 #[.slice A0 l0.length c0, .slice A1 l1.length c1] w fun e w' => e = .returned (.bool r) ∧ Drawn0 w w' := by
  have HR0 := Aside0.mk hr0
  have HC0 := Aside0.mk hc0
  clear hr0 hc0
  have HR1 := Aside0.mk hr1
  have HC1 := Aside0.mk hc1
  clear hr1 hc1
  have H : (if (l0.length : Int) = (l1.length : Int) then (ambryref19_Same.l0 k l0 l1 0) else (some false)) = some r := h
  clear h
  by_cases c3 : (l0.length : Int) = (l1.length : Int)
  · rw [if_pos c3] at H
    have c3b0 : ((l0.length : Int) == (l1.length : Int)) = true := beq_iff_eq.mpr c3
    have c3b1 : ((l0.length : Int) != (l1.length : Int)) = false := bne_eq_false_iff_eq.mpr c3
    have c3b2 : (l0.length == l1.length) = true := by first | simpa using c3 | (simp at c3 ⊢; omega)
    clear c3
    have H' := Aside0.mk H
    clear H
    go_enter Try.func17, Try.ntmps17
    go_wp2
    repeat (go_quiet (fail); try go_wp2)
    go_loopg [5] k (fun kq v5 w' => ∃ (x5_1 : Int), v5 = .int .i64 x5_1 ∧ Aside0 (ambryref19_Same.l0 kq l0 l1 x5_1 = some r) ∧ Aside0 (kq ≤ k) ∧ Drawn0 w w')
    case atStart => exact ⟨(0), (by first | rfl | (simp; done) | (simp [*]; done)), H', ⟨Nat.le_refl _⟩, by repeat (first | exact Drawn0.refl _ | apply Drawn0.step)⟩
    case round =>
      clear H'
      try clear c1
      try clear p2
      try clear c3
      try clear c3b0
      try clear c3b1
      try clear c3b2
      obtain ⟨x5_1, rfl, HA, HK1, ⟨m1, rfl⟩⟩ := hrel
      cases gk with
      | zero => exact absurd HA.out (by simp [ambryref19_Same.l0])
      | succ k1 =>
        have H := HA.out
        clear HA
        simp only [ambryref19_Same.l0] at H
        by_cases c4 : x5_1 < (l0.length : Int)
        · rw [if_pos c4] at H
          have c4b0 : decide (x5_1 < (l0.length : Int)) = true := decide_eq_true c4
          clear c4
          by_cases c5 : 0 ≤ x5_1
          · rw [if_pos c5] at H
            have c5b0 : decide (0 ≤ x5_1) = true := decide_eq_true c5
            clear c5
            by_cases c6 : x5_1 < (l1.length : Int)
            · rw [if_pos c6] at H
              have c6b0 : decide (x5_1 < (l1.length : Int)) = true := decide_eq_true c6
              clear c6
              by_cases c7 : (rdOf ByteArray.empty l0 x5_1).toList = (rdOf ByteArray.empty l1 x5_1).toList
              · rw [if_pos c7] at H
                have c7b0 : ((rdOf ByteArray.empty l0 x5_1).toList == (rdOf ByteArray.empty l1 x5_1).toList) = true := beq_iff_eq.mpr c7
                have c7b1 : ((rdOf ByteArray.empty l0 x5_1).toList != (rdOf ByteArray.empty l1 x5_1).toList) = false := bne_eq_false_iff_eq.mpr c7
                clear c7
                have H' := Aside0.mk H
                clear H
                have p135 : 0 ≤ (x5_1 : Int) := of_decide_eq_true (by first | (with_reducible assumption) | assumption)
                have q135 : x5_1 < (l0.length : Int) := of_decide_eq_true (by first | (with_reducible assumption) | assumption)
                obtain ⟨ad135, e135, hx135_0⟩ := Kd.at_string HR0.out x5_1 p135 q135
                cases e135
                replace p135 := eq_true p135
                replace q135 := eq_true q135
                have p136 : 0 ≤ (x5_1 : Int) := of_decide_eq_true (by first | (with_reducible assumption) | assumption)
                have q136 : x5_1 < (l1.length : Int) := of_decide_eq_true (by first | (with_reducible assumption) | assumption)
                obtain ⟨ad136, e136, hx136_0⟩ := Kd.at_string HR1.out x5_1 p136 q136
                cases e136
                replace p136 := eq_true p136
                replace q136 := eq_true q136
                go_wp2
                repeat (go_quiet (fail); try go_wp2)
                go_roundg k1
                case measure => have := HK1.out; omega
                case rel => exact ⟨(wrap64 (x5_1 + 1)), (by first | rfl | (simp; done) | (simp [*]; done)), H', ⟨by have := HK1.out; omega⟩, by repeat (first | exact Drawn0.refl _ | apply Drawn0.step)⟩
              · rw [if_neg c7] at H
                have c7b0 : ((rdOf ByteArray.empty l0 x5_1).toList == (rdOf ByteArray.empty l1 x5_1).toList) = false := beq_eq_false_iff_ne.mpr c7
                have c7b1 : ((rdOf ByteArray.empty l0 x5_1).toList != (rdOf ByteArray.empty l1 x5_1).toList) = true := bne_iff_ne.mpr c7
                obtain rfl := Option.some.inj H
                have p135 : 0 ≤ (x5_1 : Int) := of_decide_eq_true (by first | (with_reducible assumption) | assumption)
                have q135 : x5_1 < (l0.length : Int) := of_decide_eq_true (by first | (with_reducible assumption) | assumption)
                obtain ⟨ad135, e135, hx135_0⟩ := Kd.at_string HR0.out x5_1 p135 q135
                cases e135
                replace p135 := eq_true p135
                replace q135 := eq_true q135
                have p136 : 0 ≤ (x5_1 : Int) := of_decide_eq_true (by first | (with_reducible assumption) | assumption)
                have q136 : x5_1 < (l1.length : Int) := of_decide_eq_true (by first | (with_reducible assumption) | assumption)
                obtain ⟨ad136, e136, hx136_0⟩ := Kd.at_string HR1.out x5_1 p136 q136
                cases e136
                replace p136 := eq_true p136
                replace q136 := eq_true q136
                go_wp2
                repeat (go_quiet (fail); try go_wp2)
                go_ret
                exact ⟨by first | rfl | (simp; done) | (simp [*]; done), by repeat (first | exact Drawn0.refl _ | apply Drawn0.step)⟩
            · rw [if_neg c6] at H
              exact absurd H (by simp)
          · rw [if_neg c5] at H
            exact absurd H (by simp)
        · rw [if_neg c4] at H
          have c4b0 : decide (x5_1 < (l0.length : Int)) = false := decide_eq_false c4
          clear c4
          obtain rfl := Option.some.inj H
          go_wp2
          repeat (go_quiet (fail); try go_wp2)
          go_ret
          exact ⟨by first | rfl | (simp; done) | (simp [*]; done), by repeat (first | exact Drawn0.refl _ | apply Drawn0.step)⟩
  · rw [if_neg c3] at H
    have c3b0 : ((l0.length : Int) == (l1.length : Int)) = false := beq_eq_false_iff_ne.mpr c3
    have c3b1 : ((l0.length : Int) != (l1.length : Int)) = true := bne_iff_ne.mpr c3
    have c3b2 : (l0.length == l1.length) = false := by first | simpa using c3 | (simp at c3 ⊢; omega)
    obtain rfl := Option.some.inj H
    go_enter Try.func17, Try.ntmps17
    go_wp2
    repeat (go_quiet (fail); try go_wp2)
    go_ret
    exact ⟨by first | rfl | (simp; done) | (simp [*]; done), by repeat (first | exact Drawn0.refl _ | apply Drawn0.step)⟩

/-! ### ambryref19_Whole: function 24 -/
def ambryref19_Whole.l0 : Nat → List ByteArray → ByteArray → Int → Option (ByteArray)
  | 0, _, _, _ => none
  | k + 1, x0, x3, x4 => if x4 < (x0.length : Int) then (if (x3.size : Int) ≤ 2560 then (if 0 ≤ x4 then (if x3.size + (rdOf ByteArray.empty x0 x4).size ≤ 9223372036854775807 then (ambryref19_Whole.l0 k x0 (x3 ++ (rdOf ByteArray.empty x0 x4)) (wrap64 (x4 + 1))) else (none)) else (none)) else (some x3)) else (some x3)
def ambryref19_Whole.f (k : Nat) (l0 : List ByteArray) : Option (ByteArray) := ambryref19_Whole.l0 k l0 (⟨#[]⟩ : ByteArray) 0
theorem ambryref19_Whole.mono_l : ∀ k, (∀ y0 y1 y2, LeO (ambryref19_Whole.l0 k y0 y1 y2) (ambryref19_Whole.l0 (k + 1) y0 y1 y2))
  | 0 => fun _ _ _ r h => by simp [ambryref19_Whole.l0] at h
  | k + 1 => by
    have ih0 := ambryref19_Whole.mono_l k
    · intro y0 y1 y2
      unfold ambryref19_Whole.l0
      repeat' first
      | (with_reducible exact ih0 _ _ _)
      | (with_reducible exact LeO.refl _)
      | (with_reducible exact LeO.none _)
      | (with_reducible refine LeO.ite ?_ ?_)
      | (with_reducible refine LeO.bind ?_ (fun _ => ?_))
      | exact ih0 _ _ _
      | exact LeO.none _
      | refine LeO.ite ?_ ?_
      | refine LeO.bind ?_ (fun _ => ?_)
theorem ambryref19_Whole.mono : ∀ a0 k, LeO (ambryref19_Whole.f k a0) (ambryref19_Whole.f (k + 1) a0) := by
  intro a0 k
  have ih0 := ambryref19_Whole.mono_l k
  unfold ambryref19_Whole.f
  repeat' first
      | (with_reducible exact ih0 _ _ _)
      | (with_reducible exact LeO.refl _)
      | (with_reducible exact LeO.none _)
      | (with_reducible refine LeO.ite ?_ ?_)
      | (with_reducible refine LeO.bind ?_ (fun _ => ?_))
      | exact ih0 _ _ _
      | exact LeO.none _
      | refine LeO.ite ?_ ?_
      | refine LeO.bind ?_ (fun _ => ?_)
set_option maxHeartbeats 8000000 in
set_option maxRecDepth 100000 in
theorem ambryref19_Whole.calls (k : Nat) (A0 : Option Addr) (c0 : Nat) (l0 : List ByteArray) (r : ByteArray) (w : World) (hr0 : Kd.C Kd.string w A0 l0.length l0) (hc0 : l0.length ≤ c0) (h : ambryref19_Whole.f k l0 = some r) :
    Calls Try.prog 24 #[.slice A0 l0.length c0] w fun e w' => e = .returned (.string r) ∧ Drawn0 w w' := by
  have HR0 := Aside0.mk hr0
  have HC0 := Aside0.mk hc0
  clear hr0 hc0
  have H : (ambryref19_Whole.l0 k l0 (⟨#[]⟩ : ByteArray) 0) = some r := h
  clear h
  have H' := Aside0.mk H
  clear H
  go_enter Try.func24, Try.ntmps24
  go_wp2
  go_loopg [3, 4] k (fun kq v3 v4 w' => ∃ (x3_1 : ByteArray) (x4_1 : Int), v3 = .string x3_1 ∧ v4 = .int .i64 x4_1 ∧ Aside0 (ambryref19_Whole.l0 kq l0 x3_1 x4_1 = some r) ∧ Aside0 (kq ≤ k) ∧ Drawn0 w w')
  case atStart => exact ⟨((⟨#[]⟩ : ByteArray)), (0), (by first | rfl | (simp; done) | (simp [*]; done)), (by first | rfl | (simp; done) | (simp [*]; done)), H', ⟨Nat.le_refl _⟩, by repeat (first | exact Drawn0.refl _ | apply Drawn0.step)⟩
  case round =>
    clear H'
    obtain ⟨x3_1, x4_1, rfl, rfl, HA, HK1, ⟨m1, rfl⟩⟩ := hrel
    cases gk with
    | zero => exact absurd HA.out (by simp [ambryref19_Whole.l0])
    | succ k1 =>
      have H := HA.out
      clear HA
      simp only [ambryref19_Whole.l0] at H
      by_cases c2 : x4_1 < (l0.length : Int)
      · rw [if_pos c2] at H
        have c2b0 : decide (x4_1 < (l0.length : Int)) = true := decide_eq_true c2
        clear c2
        by_cases c3 : (x3_1.size : Int) ≤ 2560
        · rw [if_pos c3] at H
          have c3b0 : decide ((x3_1.size : Int) ≤ 2560) = true := decide_eq_true c3
          have c3b1 : decide (x3_1.size ≤ 2560) = true := decide_eq_true (by omega)
          clear c3
          by_cases c4 : 0 ≤ x4_1
          · rw [if_pos c4] at H
            have c4b0 : decide (0 ≤ x4_1) = true := decide_eq_true c4
            clear c4
            by_cases c5 : x3_1.size + (rdOf ByteArray.empty l0 x4_1).size ≤ 9223372036854775807
            · rw [if_pos c5] at H
              have c5b0 := eq_true c5
              have c5b1 : decide (x3_1.size + (rdOf ByteArray.empty l0 x4_1).size ≤ 9223372036854775807) = true := decide_eq_true c5
              try have c5b2 : (9223372036854775807 < x3_1.size + (rdOf ByteArray.empty l0 x4_1).size) = False := eq_false (Nat.not_lt.2 c5)
              have H' := Aside0.mk H
              clear H
              have p137 : 0 ≤ (x4_1 : Int) := of_decide_eq_true (by first | (with_reducible assumption) | assumption)
              have q137 : x4_1 < (l0.length : Int) := of_decide_eq_true (by first | (with_reducible assumption) | assumption)
              obtain ⟨ad137, e137, hx137_0⟩ := Kd.at_string HR0.out x4_1 p137 q137
              cases e137
              replace p137 := eq_true p137
              replace q137 := eq_true q137
              go_wp2
              go_roundg k1
              case measure => have := HK1.out; omega
              case rel => exact ⟨(x3_1 ++ (rdOf ByteArray.empty l0 x4_1)), (wrap64 (x4_1 + 1)), (by first | rfl | (simp; done) | (simp [*]; done)), (by first | rfl | (simp; done) | (simp [*]; done)), H', ⟨by have := HK1.out; omega⟩, by repeat (first | exact Drawn0.refl _ | apply Drawn0.step)⟩
            · rw [if_neg c5] at H
              exact absurd H (by simp)
          · rw [if_neg c4] at H
            exact absurd H (by simp)
        · rw [if_neg c3] at H
          have c3b0 : decide ((x3_1.size : Int) ≤ 2560) = false := decide_eq_false c3
          have c3b1 : decide (x3_1.size ≤ 2560) = false := decide_eq_false (by omega)
          clear c3
          obtain rfl := Option.some.inj H
          go_wp2
          go_ret
          exact ⟨by first | rfl | (simp; done) | (simp [*]; done), by repeat (first | exact Drawn0.refl _ | apply Drawn0.step)⟩
      · rw [if_neg c2] at H
        have c2b0 : decide (x4_1 < (l0.length : Int)) = false := decide_eq_false c2
        clear c2
        obtain rfl := Option.some.inj H
        go_wp2
        go_ret
        exact ⟨by first | rfl | (simp; done) | (simp [*]; done), by repeat (first | exact Drawn0.refl _ | apply Drawn0.step)⟩

/-! ### ambryref03_left: function 33 -/
def ambryref03_left.f (a0 : Int) : Option (Int) := some (Int.tmod (wrap64 ((Int.tmod a0 1048573) + 1048573)) 1048573)
set_option maxHeartbeats 8000000 in
set_option maxRecDepth 100000 in
theorem ambryref03_left.calls (a0 : Int) (r : Int) (w : World) (h : ambryref03_left.f a0 = some r) :
    Calls Try.prog 33 #[.int .i64 a0] w fun e w' => e = .returned (.int .i64 r) ∧ Drawn0 w w' := by
  have H : (some (Int.tmod (wrap64 ((Int.tmod a0 1048573) + 1048573)) 1048573)) = some r := h
  clear h
  obtain rfl := Option.some.inj H
  go_enter Try.func33, Try.ntmps33
  go_wp2
  go_ret
  exact ⟨by first | rfl | (simp; done) | (simp [*]; done), by repeat (first | exact Drawn0.refl _ | apply Drawn0.step)⟩

end Go.Proofs.Ytlbfegnmkddlbaa.A
