-- Written for this claim by a program of the session: the kit's printer with hand-written contracts put in. Lean checks it.
import Derived.Test.YtlbfegnmkddlbaaAx0
import Derived.Test.YtlbfegnmkddlbaaAx1
import Derived.Test.YtlbfegnmkddlbaaAx2
namespace Go.Proofs.Ytlbfegnmkddlbaa.A
open Go.RowKit Go.Proofs.YtlbfegnmkddlbaaW.PrintWords Go.Proofs.YtlbfegnmkddlbaaW.PrintLast Go.Proofs.YtlbfegnmkddlbaaW.PrintMore
attribute [local go_sem] max2_int min2_int max_two min_two max_three min_three max_four min_four   -- for this text's walks alone
set_option linter.unusedVariables false
set_option linter.unusedSimpArgs false

/-! ### ambrylaw19_BlobPieces: function 4 -/
mutual
def ambrylaw19_BlobPieces.j0 : Nat → ByteArray → Int → Int → List ByteArray → Int → Int → Bool → Option (Bool)
  | 0, _, _, _, _, _, _, _ => none
  | k + 1, x0, x1, x2, x7, x9, x10, x72 => if x72 = true then (some false) else (if 0 ≤ x1 then (if x1 ≤ (wrap64 (x1 + (mn x2 (wrap64 ((x0.size : Int) - x1))))) then (if (wrap64 (x1 + (mn x2 (wrap64 ((x0.size : Int) - x1))))) ≤ (x0.size : Int) then (if x10 = 0 then (if (x0.extract (x1 : Int).toNat ((wrap64 (x1 + (mn x2 (wrap64 ((x0.size : Int) - x1))))) : Int).toNat).toList = ([] : List UInt8) then (if x9 = 0 then ((ambrylaw19_lives.f k).bind fun t166 => (some t166)) else (some false)) else (some false)) else (if 0 ≤ x9 then (if x9 ≤ (wrap64 (x9 + x10)) then (if (wrap64 (x9 + x10)) ≤ (x7.length : Int) then ((blob_Piece.f k ((x7.take ((wrap64 (x9 + x10)) : Int).toNat).drop (x9 : Int).toNat) x9 x1 x2).bind fun bt171 => (if bt171.1.toList = (x0.extract (x1 : Int).toNat ((wrap64 (x1 + (mn x2 (wrap64 ((x0.size : Int) - x1))))) : Int).toNat).toList then (ambrylaw19_BlobPieces.j1 k x1 x2 x7 x9 x10 (x0.extract (x1 : Int).toNat ((wrap64 (x1 + (mn x2 (wrap64 ((x0.size : Int) - x1))))) : Int).toNat) (bt171.2 != 0)) else (ambrylaw19_BlobPieces.j1 k x1 x2 x7 x9 x10 (x0.extract (x1 : Int).toNat ((wrap64 (x1 + (mn x2 (wrap64 ((x0.size : Int) - x1))))) : Int).toNat) true))) else (none)) else (none)) else (none))) else (none)) else (none)) else (none))
def ambrylaw19_BlobPieces.j1 : Nat → Int → Int → List ByteArray → Int → Int → ByteArray → Bool → Option (Bool)
  | 0, _, _, _, _, _, _, _ => none
  | k + 1, x1, x2, x7, x9, x10, x12, x114 => if x114 = true then (some false) else (if x10 = 1 then ((ambrylaw19_lives.f k).bind fun t173 => (some t173)) else (if 0 ≤ x9 then (if x9 ≤ (wrap64 ((wrap64 (x9 + x10)) - 1)) then (if (wrap64 ((wrap64 (x9 + x10)) - 1)) ≤ (x7.length : Int) then ((blob_Piece.f k ((x7.take ((wrap64 ((wrap64 (x9 + x10)) - 1)) : Int).toNat).drop (x9 : Int).toNat) x9 x1 x2).bind fun bt178 => (if bt178.2 = 0 then (if (bt178.1.size : Int) < (x12.size : Int) then (if 0 ≤ (bt178.1.size : Int) then (if (bt178.1.size : Int) ≤ (x12.size : Int) then (if bt178.1.toList = (x12.extract 0 ((bt178.1.size : Int) : Int).toNat).toList then ((ambrylaw19_lives.f k).bind fun t180 => (some t180)) else (some false)) else (none)) else (none)) else (some false)) else (some false))) else (none)) else (none)) else (none)))
end
def ambrylaw19_BlobPieces.f (k : Nat) (a0 : ByteArray) (a1 : Int) (a2 : Int) : Option (Bool) := (blob_Cut.f k a0).bind fun bt155 => (if bt155.2 = 0 then ((blob_Need.f k (a0.size : Int) a1 a2).bind fun bt160 => (if bt160.2.2 = 0 then (if bt160.1 < 0 then (ambrylaw19_BlobPieces.j0 k a0 a1 a2 bt155.1 bt160.1 bt160.2.1 true) else (if bt160.2.1 < 0 then (ambrylaw19_BlobPieces.j0 k a0 a1 a2 bt155.1 bt160.1 bt160.2.1 true) else (if bt160.1 > (bt155.1.length : Int) then (ambrylaw19_BlobPieces.j0 k a0 a1 a2 bt155.1 bt160.1 bt160.2.1 true) else (ambrylaw19_BlobPieces.j0 k a0 a1 a2 bt155.1 bt160.1 bt160.2.1 (decide (bt160.2.1 > (wrap64 ((bt155.1.length : Int) - bt160.1)))))))) else (if bt160.2.2 = 2 then (if a1 < 0 then ((ambrylaw19_lives.f k).bind fun t163 => (some t163)) else (if a1 > (a0.size : Int) then ((ambrylaw19_lives.f k).bind fun t164 => (some t164)) else (if a2 < 0 then ((ambrylaw19_lives.f k).bind fun t165 => (some t165)) else (some false)))) else (some false)))) else ((ambrylaw19_lives.f k).bind fun t159 => (some t159)))
theorem ambrylaw19_BlobPieces.mono_l : ∀ k, (∀ y0 y1 y2 y3 y4 y5 y6, LeO (ambrylaw19_BlobPieces.j0 k y0 y1 y2 y3 y4 y5 y6) (ambrylaw19_BlobPieces.j0 (k + 1) y0 y1 y2 y3 y4 y5 y6)) ∧ (∀ y0 y1 y2 y3 y4 y5 y6, LeO (ambrylaw19_BlobPieces.j1 k y0 y1 y2 y3 y4 y5 y6) (ambrylaw19_BlobPieces.j1 (k + 1) y0 y1 y2 y3 y4 y5 y6))
  | 0 => ⟨fun _ _ _ _ _ _ _ r h => by simp [ambrylaw19_BlobPieces.j0] at h, fun _ _ _ _ _ _ _ r h => by simp [ambrylaw19_BlobPieces.j1] at h⟩
  | k + 1 => by
    obtain ⟨ih0, ih1⟩ := ambrylaw19_BlobPieces.mono_l k
    refine ⟨?_, ?_⟩
    · intro y0 y1 y2 y3 y4 y5 y6
      unfold ambrylaw19_BlobPieces.j0
      repeat' first
      | (with_reducible exact ih0 _ _ _ _ _ _ _)
      | (with_reducible exact ih1 _ _ _ _ _ _ _)
      | (with_reducible exact ambrylaw19_lives.mono _)
      | (with_reducible exact blob_Cut.mono _ _)
      | (with_reducible exact blob_Need.mono _ _ _ _)
      | (with_reducible exact blob_Piece.mono _ _ _ _ _)
      | (with_reducible exact LeO.refl _)
      | (with_reducible exact LeO.none _)
      | (with_reducible refine LeO.ite ?_ ?_)
      | (with_reducible refine LeO.bind ?_ (fun _ => ?_))
      | exact ih0 _ _ _ _ _ _ _
      | exact ih1 _ _ _ _ _ _ _
      | exact ambrylaw19_lives.mono _
      | exact blob_Cut.mono _ _
      | exact blob_Need.mono _ _ _ _
      | exact blob_Piece.mono _ _ _ _ _
      | exact LeO.none _
      | refine LeO.ite ?_ ?_
      | refine LeO.bind ?_ (fun _ => ?_)
    · intro y0 y1 y2 y3 y4 y5 y6
      unfold ambrylaw19_BlobPieces.j1
      repeat' first
      | (with_reducible exact ih0 _ _ _ _ _ _ _)
      | (with_reducible exact ih1 _ _ _ _ _ _ _)
      | (with_reducible exact ambrylaw19_lives.mono _)
      | (with_reducible exact blob_Cut.mono _ _)
      | (with_reducible exact blob_Need.mono _ _ _ _)
      | (with_reducible exact blob_Piece.mono _ _ _ _ _)
      | (with_reducible exact LeO.refl _)
      | (with_reducible exact LeO.none _)
      | (with_reducible refine LeO.ite ?_ ?_)
      | (with_reducible refine LeO.bind ?_ (fun _ => ?_))
      | exact ih0 _ _ _ _ _ _ _
      | exact ih1 _ _ _ _ _ _ _
      | exact ambrylaw19_lives.mono _
      | exact blob_Cut.mono _ _
      | exact blob_Need.mono _ _ _ _
      | exact blob_Piece.mono _ _ _ _ _
      | exact LeO.none _
      | refine LeO.ite ?_ ?_
      | refine LeO.bind ?_ (fun _ => ?_)
theorem ambrylaw19_BlobPieces.mono : ∀ a0 a1 a2 k, LeO (ambrylaw19_BlobPieces.f k a0 a1 a2) (ambrylaw19_BlobPieces.f (k + 1) a0 a1 a2) := by
  intro a0 a1 a2 k
  obtain ⟨ih0, ih1⟩ := ambrylaw19_BlobPieces.mono_l k
  unfold ambrylaw19_BlobPieces.f
  repeat' first
      | (with_reducible exact ih0 _ _ _ _ _ _ _)
      | (with_reducible exact ih1 _ _ _ _ _ _ _)
      | (with_reducible exact ambrylaw19_lives.mono _)
      | (with_reducible exact blob_Cut.mono _ _)
      | (with_reducible exact blob_Need.mono _ _ _ _)
      | (with_reducible exact blob_Piece.mono _ _ _ _ _)
      | (with_reducible exact LeO.refl _)
      | (with_reducible exact LeO.none _)
      | (with_reducible refine LeO.ite ?_ ?_)
      | (with_reducible refine LeO.bind ?_ (fun _ => ?_))
      | exact ih0 _ _ _ _ _ _ _
      | exact ih1 _ _ _ _ _ _ _
      | exact ambrylaw19_lives.mono _
      | exact blob_Cut.mono _ _
      | exact blob_Need.mono _ _ _ _
      | exact blob_Piece.mono _ _ _ _ _
      | exact LeO.none _
      | refine LeO.ite ?_ ?_
      | refine LeO.bind ?_ (fun _ => ?_)
set_option maxHeartbeats 8000000 in
set_option maxRecDepth 100000 in
theorem ambrylaw19_BlobPieces.calls (k : Nat) (a0 : ByteArray) (a1 : Int) (a2 : Int) (r : Bool) (w : World) (h : ambrylaw19_BlobPieces.f k a0 a1 a2 = some r) :
    Calls Try.prog 4 #[.string a0, .int .i64 a1, .int .i64 a2] w fun e w' => e = .returned (.bool r) ∧ Below w.heap.size w w' := by
  have HB := Aside0.mk (Below.refl w.heap.size w)
  have H : ((blob_Cut.f k a0).bind fun bt155 => (if bt155.2 = 0 then ((blob_Need.f k (a0.size : Int) a1 a2).bind fun bt160 => (if bt160.2.2 = 0 then (if bt160.1 < 0 then (ambrylaw19_BlobPieces.j0 k a0 a1 a2 bt155.1 bt160.1 bt160.2.1 true) else (if bt160.2.1 < 0 then (ambrylaw19_BlobPieces.j0 k a0 a1 a2 bt155.1 bt160.1 bt160.2.1 true) else (if bt160.1 > (bt155.1.length : Int) then (ambrylaw19_BlobPieces.j0 k a0 a1 a2 bt155.1 bt160.1 bt160.2.1 true) else (ambrylaw19_BlobPieces.j0 k a0 a1 a2 bt155.1 bt160.1 bt160.2.1 (decide (bt160.2.1 > (wrap64 ((bt155.1.length : Int) - bt160.1)))))))) else (if bt160.2.2 = 2 then (if a1 < 0 then ((ambrylaw19_lives.f k).bind fun t163 => (some t163)) else (if a1 > (a0.size : Int) then ((ambrylaw19_lives.f k).bind fun t164 => (some t164)) else (if a2 < 0 then ((ambrylaw19_lives.f k).bind fun t165 => (some t165)) else (some false)))) else (some false)))) else ((ambrylaw19_lives.f k).bind fun t159 => (some t159)))) = some r := h
  clear h
  replace H := Option.bind_eq_some_iff.mp H
  obtain ⟨⟨t155, t156⟩, A40, H⟩ := H
  replace H : (if t156 = 0 then ((blob_Need.f k (a0.size : Int) a1 a2).bind fun bt160 => (if bt160.2.2 = 0 then (if bt160.1 < 0 then (ambrylaw19_BlobPieces.j0 k a0 a1 a2 t155 bt160.1 bt160.2.1 true) else (if bt160.2.1 < 0 then (ambrylaw19_BlobPieces.j0 k a0 a1 a2 t155 bt160.1 bt160.2.1 true) else (if bt160.1 > (t155.length : Int) then (ambrylaw19_BlobPieces.j0 k a0 a1 a2 t155 bt160.1 bt160.2.1 true) else (ambrylaw19_BlobPieces.j0 k a0 a1 a2 t155 bt160.1 bt160.2.1 (decide (bt160.2.1 > (wrap64 ((t155.length : Int) - bt160.1)))))))) else (if bt160.2.2 = 2 then (if a1 < 0 then ((ambrylaw19_lives.f k).bind fun t163 => (some t163)) else (if a1 > (a0.size : Int) then ((ambrylaw19_lives.f k).bind fun t164 => (some t164)) else (if a2 < 0 then ((ambrylaw19_lives.f k).bind fun t165 => (some t165)) else (some false)))) else (some false)))) else ((ambrylaw19_lives.f k).bind fun t159 => (some t159))) = some r := H
  have A4 := Aside0.mk A40
  clear A40
  by_cases c5 : t156 = 0
  · rw [if_pos c5] at H
    have c5b0 : (t156 == 0) = true := beq_iff_eq.mpr c5
    have c5b1 : (t156 != 0) = false := bne_eq_false_iff_eq.mpr c5
    clear c5
    replace H := Option.bind_eq_some_iff.mp H
    obtain ⟨⟨t160, t161, t162⟩, A60, H⟩ := H
    replace H : (if t162 = 0 then (if t160 < 0 then (ambrylaw19_BlobPieces.j0 k a0 a1 a2 t155 t160 t161 true) else (if t161 < 0 then (ambrylaw19_BlobPieces.j0 k a0 a1 a2 t155 t160 t161 true) else (if t160 > (t155.length : Int) then (ambrylaw19_BlobPieces.j0 k a0 a1 a2 t155 t160 t161 true) else (ambrylaw19_BlobPieces.j0 k a0 a1 a2 t155 t160 t161 (decide (t161 > (wrap64 ((t155.length : Int) - t160)))))))) else (if t162 = 2 then (if a1 < 0 then ((ambrylaw19_lives.f k).bind fun t163 => (some t163)) else (if a1 > (a0.size : Int) then ((ambrylaw19_lives.f k).bind fun t164 => (some t164)) else (if a2 < 0 then ((ambrylaw19_lives.f k).bind fun t165 => (some t165)) else (some false)))) else (some false))) = some r := H
    have A6 := Aside0.mk A60
    clear A60
    by_cases c7 : t162 = 0
    · rw [if_pos c7] at H
      have c7b0 : (t162 == 0) = true := beq_iff_eq.mpr c7
      have c7b1 : (t162 != 0) = false := bne_eq_false_iff_eq.mpr c7
      clear c7
      have HC8 := Aside0.mk H
      clear H
      go_enter Try.func4, Try.ntmps4
      go_upto_region 7 with (first | ((with_reducible refine gate_callee (f := 13) rfl ?_); refine goesL_ (some 17) rfl rfl Try.func13 (by kernel_rfl) rfl #[.string a0] rfl (by (try simp only [List.map_toArray, List.map_cons, List.map_nil]); first | done | rfl | (simp only [List.length_drop, List.length_take]; rfl)) ?_; (with_reducible refine (blob_Cut.calls k a0 t155 t156 _ A4.out).mono ?_); rintro e w9 ⟨v157, rfl, ho0, hb⟩; refine ⟨_, rfl, ?_⟩; have n0_ := Aside0.mk (Kd.R_lower ho0 (below_size (by repeat (first | (with_reducible first | exact HB.out | apply below_alloc | apply pw_below_drewN | apply below_drew1) | exact HB.out)))); have n1_ := Aside0.mk (below_step (by repeat (first | (with_reducible first | exact HB.out | apply below_alloc | apply pw_below_drewN | apply below_drew1) | exact HB.out)) hb); clear HB; have HO158 := n0_; have HB := n1_; clear n0_ n1_; (try clear hb); (try clear hb2); (try clear hk); (try clear hi); (try clear ho0)) | ((with_reducible refine gate_callee (f := 9) rfl ?_); refine goesL_ (some 28) rfl rfl Try.func9 (by kernel_rfl) rfl #[.int .i64 (a0.size : Int), .int .i64 a1, .int .i64 a2] rfl (by (try simp only [List.map_toArray, List.map_cons, List.map_nil]); first | done | rfl | (simp only [List.length_drop, List.length_take]; rfl)) ?_; (with_reducible refine (blob_Need.calls k (a0.size : Int) a1 a2 t160 t161 t162 _ A6.out).mono ?_); rintro e w10 ⟨rfl, hb⟩; refine ⟨_, rfl, ?_⟩; have n0_ := Aside0.mk (Kd.R_below (by (with_reducible repeat (first | apply Kd.R_alloc | apply Kd.R_drewN | apply Kd.R_drew)); exact HO158.out) hb); have n1_ := Aside0.mk (below_step (by repeat (first | (with_reducible first | exact HB.out | apply below_alloc | apply pw_below_drewN | apply below_drew1) | exact HB.out)) hb); clear HO158; clear HB; have HO158 := n0_; have HB := n1_; clear n0_ n1_; (try clear hb); (try clear hb2); (try clear hk); (try clear hi)))
      (try simp only [Act.put, List.setIfInBounds_toArray, List.set_cons_zero, List.set_cons_succ])
      go_cut [72] (fun v72 wc => ∃ (kq : Nat) (x72_7 : Bool), v72 = .bool x72_7 ∧ Aside0 (ambrylaw19_BlobPieces.j0 kq a0 a1 a2 t155 t160 t161 x72_7 = some r) ∧ Aside0 (kq ≤ k) ∧ Aside0 (Kd.R Kd.string 9 wc w.heap.size (fun _ => True) v157 t155) ∧ Aside0 (Below w.heap.size w wc))
      case first =>
        have H := HC8.out
        clear HC8
        by_cases c11 : t160 < 0
        · rw [if_pos c11] at H
          have c11b0 : decide (t160 < 0) = true := decide_eq_true c11
          clear c11
          (first | rw [c11b0] | (simp only [i64_w, i32_w]; rw [c11b0]) | skip)
          have H' := Aside0.mk H
          clear H
          go_wp2
          go_meet
          case rel => exact ⟨_, (true), (by first | rfl | (simp; done) | (simp [*]; done)), H', ⟨by first | omega | exact Nat.le_refl _⟩, ⟨by (with_reducible repeat (first | apply Kd.R_alloc | apply Kd.R_drewN | apply Kd.R_drew)); exact HO158.out⟩, ⟨by repeat (first | (with_reducible first | exact HB.out | apply below_alloc | apply pw_below_drewN | apply below_drew1) | exact HB.out)⟩⟩
        · rw [if_neg c11] at H
          have c11b0 : decide (t160 < 0) = false := decide_eq_false c11
          clear c11
          (first | rw [c11b0] | (simp only [i64_w, i32_w]; rw [c11b0]) | skip)
          by_cases c12 : t161 < 0
          · rw [if_pos c12] at H
            have c12b0 : decide (t161 < 0) = true := decide_eq_true c12
            clear c12
            have H' := Aside0.mk H
            clear H
            go_wp2
            go_meet
            case rel => exact ⟨_, (true), (by first | rfl | (simp; done) | (simp [*]; done)), H', ⟨by first | omega | exact Nat.le_refl _⟩, ⟨by (with_reducible repeat (first | apply Kd.R_alloc | apply Kd.R_drewN | apply Kd.R_drew)); exact HO158.out⟩, ⟨by repeat (first | (with_reducible first | exact HB.out | apply below_alloc | apply pw_below_drewN | apply below_drew1) | exact HB.out)⟩⟩
          · rw [if_neg c12] at H
            have c12b0 : decide (t161 < 0) = false := decide_eq_false c12
            clear c12
            by_cases c13 : t160 > (t155.length : Int)
            · rw [if_pos c13] at H
              have c13b0 : decide ((t155.length : Int) < t160) = true := decide_eq_true c13
              clear c13
              have H' := Aside0.mk H
              clear H
              obtain ⟨Ao14, co14, eo14⟩ := Kd.R_slice HO158.out
              subst eo14
              go_wp2
              go_meet
              case rel => exact ⟨_, (true), (by first | rfl | (simp; done) | (simp [*]; done)), H', ⟨by first | omega | exact Nat.le_refl _⟩, ⟨by (with_reducible repeat (first | apply Kd.R_alloc | apply Kd.R_drewN | apply Kd.R_drew)); exact HO158.out⟩, ⟨by repeat (first | (with_reducible first | exact HB.out | apply below_alloc | apply pw_below_drewN | apply below_drew1) | exact HB.out)⟩⟩
            · rw [if_neg c13] at H
              have c13b0 : decide ((t155.length : Int) < t160) = false := decide_eq_false c13
              clear c13
              have H' := Aside0.mk H
              clear H
              obtain ⟨Ao15, co15, eo15⟩ := Kd.R_slice HO158.out
              subst eo15
              go_wp2
              go_meet
              case rel => exact ⟨_, (decide (t161 > (wrap64 ((t155.length : Int) - t160)))), (by first | rfl | (simp; done) | (simp [*]; done)), H', ⟨by first | omega | exact Nat.le_refl _⟩, ⟨by (with_reducible repeat (first | apply Kd.R_alloc | apply Kd.R_drewN | apply Kd.R_drew)); exact HO158.out⟩, ⟨by repeat (first | (with_reducible first | exact HB.out | apply below_alloc | apply pw_below_drewN | apply below_drew1) | exact HB.out)⟩⟩
      case rest =>
        clear HC8
        try clear c1
        try clear p2
        try clear c4
        try clear c5
        try clear c5b0
        try clear c5b1
        try clear p6
        try clear c7
        try clear c7b0
        try clear c7b1
        try clear c9
        try clear c11
        try clear c11b0
        try clear c12
        try clear c12b0
        try clear c13
        try clear c13b0
        obtain ⟨kq, x72_7, rfl, HA, HJ7, HO_7, HB⟩ := hcut
        cases kq with
        | zero => exact absurd HA.out (by simp [ambrylaw19_BlobPieces.j0])
        | succ kj7 =>
          have H := HA.out
          clear HA
          simp only [ambrylaw19_BlobPieces.j0] at H
          by_cases c16 : x72_7 = true
          · subst c16
            have H1 : (some false) = some r := by rw [if_pos rfl] at H; exact H
            clear H
            have H := H1
            clear H1
            obtain rfl := Option.some.inj H
            go_wp2
            go_ret
            exact ⟨by first | rfl | (simp [errW_none, errW_some] <;> rfl) | (simp [*, errW_none, errW_some] <;> rfl), by repeat (first | (with_reducible first | exact HB.out | apply below_alloc | apply pw_below_drewN | apply below_drew1) | exact HB.out)⟩
          · replace c16 := Bool.eq_false_iff.mpr c16
            subst c16
            have H1 : (if 0 ≤ a1 then (if a1 ≤ (wrap64 (a1 + (mn a2 (wrap64 ((a0.size : Int) - a1))))) then (if (wrap64 (a1 + (mn a2 (wrap64 ((a0.size : Int) - a1))))) ≤ (a0.size : Int) then (if t161 = 0 then (if (a0.extract (a1 : Int).toNat ((wrap64 (a1 + (mn a2 (wrap64 ((a0.size : Int) - a1))))) : Int).toNat).toList = ([] : List UInt8) then (if t160 = 0 then ((ambrylaw19_lives.f kj7).bind fun t166 => (some t166)) else (some false)) else (some false)) else (if 0 ≤ t160 then (if t160 ≤ (wrap64 (t160 + t161)) then (if (wrap64 (t160 + t161)) ≤ (t155.length : Int) then ((blob_Piece.f kj7 ((t155.take ((wrap64 (t160 + t161)) : Int).toNat).drop (t160 : Int).toNat) t160 a1 a2).bind fun bt171 => (if bt171.1.toList = (a0.extract (a1 : Int).toNat ((wrap64 (a1 + (mn a2 (wrap64 ((a0.size : Int) - a1))))) : Int).toNat).toList then (ambrylaw19_BlobPieces.j1 kj7 a1 a2 t155 t160 t161 (a0.extract (a1 : Int).toNat ((wrap64 (a1 + (mn a2 (wrap64 ((a0.size : Int) - a1))))) : Int).toNat) (bt171.2 != 0)) else (ambrylaw19_BlobPieces.j1 kj7 a1 a2 t155 t160 t161 (a0.extract (a1 : Int).toNat ((wrap64 (a1 + (mn a2 (wrap64 ((a0.size : Int) - a1))))) : Int).toNat) true))) else (none)) else (none)) else (none))) else (none)) else (none)) else (none)) = some r := by rw [if_neg (show ¬ (false = true) by decide)] at H; exact H
            clear H
            have H := H1
            clear H1
            obtain ⟨ji17, hji17⟩ : ∃ j_ : Int, (mn a2 (wrap64 ((a0.size : Int) - a1))) = j_ := ⟨_, rfl⟩
            replace H : (if 0 ≤ a1 then (if a1 ≤ (wrap64 (a1 + (ji17))) then (if (wrap64 (a1 + (ji17))) ≤ (a0.size : Int) then (if t161 = 0 then (if (a0.extract (a1 : Int).toNat ((wrap64 (a1 + (ji17))) : Int).toNat).toList = ([] : List UInt8) then (if t160 = 0 then ((ambrylaw19_lives.f kj7).bind fun t166 => (some t166)) else (some false)) else (some false)) else (if 0 ≤ t160 then (if t160 ≤ (wrap64 (t160 + t161)) then (if (wrap64 (t160 + t161)) ≤ (t155.length : Int) then ((blob_Piece.f kj7 ((t155.take ((wrap64 (t160 + t161)) : Int).toNat).drop (t160 : Int).toNat) t160 a1 a2).bind fun bt171 => (if bt171.1.toList = (a0.extract (a1 : Int).toNat ((wrap64 (a1 + (ji17))) : Int).toNat).toList then (ambrylaw19_BlobPieces.j1 kj7 a1 a2 t155 t160 t161 (a0.extract (a1 : Int).toNat ((wrap64 (a1 + (ji17))) : Int).toNat) (bt171.2 != 0)) else (ambrylaw19_BlobPieces.j1 kj7 a1 a2 t155 t160 t161 (a0.extract (a1 : Int).toNat ((wrap64 (a1 + (ji17))) : Int).toNat) true))) else (none)) else (none)) else (none))) else (none)) else (none)) else (none)) = some r := by first | (rw [hji17] at H; exact H) | (simp only [hji17] at H ⊢; exact H)
            have hji17_ : (if (wrap64 ((a0.size : Int) - a1)) < a2 then (wrap64 ((a0.size : Int) - a1)) else a2) = ji17 := hji17
            by_cases c18 : 0 ≤ a1
            · rw [if_pos c18] at H
              have c18b0 := eq_true c18
              have c18b1 : decide (0 ≤ a1) = true := decide_eq_true c18
              clear c18
              by_cases c19 : a1 ≤ (wrap64 (a1 + (ji17)))
              · rw [if_pos c19] at H
                have c19b0 := eq_true c19
                have c19b1 : decide (a1 ≤ (wrap64 (a1 + (ji17)))) = true := decide_eq_true c19
                by_cases c20 : (wrap64 (a1 + (ji17))) ≤ (a0.size : Int)
                · rw [if_pos c20] at H
                  have c20b0 := eq_true c20
                  have c20b1 : decide ((wrap64 (a1 + (ji17))) ≤ (a0.size : Int)) = true := decide_eq_true c20
                  by_cases c21 : t161 = 0
                  · rw [if_pos c21] at H
                    have c21b0 : (t161 == 0) = true := beq_iff_eq.mpr c21
                    have c21b1 : (t161 != 0) = false := bne_eq_false_iff_eq.mpr c21
                    clear c21
                    by_cases c22 : (a0.extract (a1 : Int).toNat ((wrap64 (a1 + (ji17))) : Int).toNat).toList = ([] : List UInt8)
                    · rw [if_pos c22] at H
                      have c22b0 : ((a0.extract (a1 : Int).toNat ((wrap64 (a1 + (ji17))) : Int).toNat).toList == ([] : List UInt8)) = true := beq_iff_eq.mpr c22
                      have c22b1 : ((a0.extract (a1 : Int).toNat ((wrap64 (a1 + (ji17))) : Int).toNat).toList != ([] : List UInt8)) = false := bne_eq_false_iff_eq.mpr c22
                      clear c22
                      by_cases c23 : t160 = 0
                      · rw [if_pos c23] at H
                        have c23b0 : (t160 == 0) = true := beq_iff_eq.mpr c23
                        have c23b1 : (t160 != 0) = false := bne_eq_false_iff_eq.mpr c23
                        clear c23
                        replace H := Option.bind_eq_some_iff.mp H
                        obtain ⟨t166, A240, H⟩ := H
                        replace H : (some t166) = some r := H
                        have A24 := Aside0.mk A240
                        clear A240
                        obtain rfl := Option.some.inj H
                        go_wp2_with (first | (go_at_call 8; (with_reducible refine (ambrylaw19_lives.calls kj7  t166 _ A24.out).mono ?_); rintro e w25 ⟨rfl, hb⟩; have n0_ := Aside0.mk (Kd.R_below (by (with_reducible repeat (first | apply Kd.R_alloc | apply Kd.R_drewN | apply Kd.R_drew)); exact HO_7.out) hb); have n1_ := Aside0.mk (below_step (by repeat (first | (with_reducible first | exact HB.out | apply below_alloc | apply pw_below_drewN | apply below_drew1) | exact HB.out)) hb); clear HO_7; clear HB; have HO_7 := n0_; have HB := n1_; clear n0_ n1_; (try clear hb); (try clear hb2); (try clear hk); (try clear hi)))
                        go_ret
                        exact ⟨by first | rfl | (simp [errW_none, errW_some] <;> rfl) | (simp only [← hji17]; first | rfl | (simp [errW_none, errW_some] <;> rfl)) | (simp [*, errW_none, errW_some] <;> rfl), by repeat (first | (with_reducible first | exact HB.out | apply below_alloc | apply pw_below_drewN | apply below_drew1) | exact HB.out)⟩
                      · rw [if_neg c23] at H
                        have c23b0 : (t160 == 0) = false := beq_eq_false_iff_ne.mpr c23
                        have c23b1 : (t160 != 0) = true := bne_iff_ne.mpr c23
                        obtain rfl := Option.some.inj H
                        go_wp2
                        go_ret
                        exact ⟨by first | rfl | (simp [errW_none, errW_some] <;> rfl) | (simp only [← hji17]; first | rfl | (simp [errW_none, errW_some] <;> rfl)) | (simp [*, errW_none, errW_some] <;> rfl), by repeat (first | (with_reducible first | exact HB.out | apply below_alloc | apply pw_below_drewN | apply below_drew1) | exact HB.out)⟩
                    · rw [if_neg c22] at H
                      have c22b0 : ((a0.extract (a1 : Int).toNat ((wrap64 (a1 + (ji17))) : Int).toNat).toList == ([] : List UInt8)) = false := beq_eq_false_iff_ne.mpr c22
                      have c22b1 : ((a0.extract (a1 : Int).toNat ((wrap64 (a1 + (ji17))) : Int).toNat).toList != ([] : List UInt8)) = true := bne_iff_ne.mpr c22
                      obtain rfl := Option.some.inj H
                      go_wp2
                      go_ret
                      exact ⟨by first | rfl | (simp [errW_none, errW_some] <;> rfl) | (simp only [← hji17]; first | rfl | (simp [errW_none, errW_some] <;> rfl)) | (simp [*, errW_none, errW_some] <;> rfl), by repeat (first | (with_reducible first | exact HB.out | apply below_alloc | apply pw_below_drewN | apply below_drew1) | exact HB.out)⟩
                  · rw [if_neg c21] at H
                    have c21b0 : (t161 == 0) = false := beq_eq_false_iff_ne.mpr c21
                    have c21b1 : (t161 != 0) = true := bne_iff_ne.mpr c21
                    by_cases c26 : 0 ≤ t160
                    · rw [if_pos c26] at H
                      have c26b0 := eq_true c26
                      have c26b1 : decide (0 ≤ t160) = true := decide_eq_true c26
                      clear c26
                      by_cases c27 : t160 ≤ (wrap64 (t160 + t161))
                      · rw [if_pos c27] at H
                        have c27b0 := eq_true c27
                        have c27b1 : decide (t160 ≤ (wrap64 (t160 + t161))) = true := decide_eq_true c27
                        by_cases c28 : (wrap64 (t160 + t161)) ≤ (t155.length : Int)
                        · rw [if_pos c28] at H
                          have c28b0 := eq_true c28
                          have c28b1 : decide ((wrap64 (t160 + t161)) ≤ (t155.length : Int)) = true := decide_eq_true c28
                          obtain ⟨y167, hy167⟩ : ∃ y_ : List ByteArray, y_ = ((t155.take ((wrap64 (t160 + t161)) : Int).toNat).drop (t160 : Int).toNat) := ⟨_, rfl⟩
                          replace H : ((blob_Piece.f kj7 y167 t160 a1 a2).bind fun bt171 => (if bt171.1.toList = (a0.extract (a1 : Int).toNat ((wrap64 (a1 + (ji17))) : Int).toNat).toList then (ambrylaw19_BlobPieces.j1 kj7 a1 a2 t155 t160 t161 (a0.extract (a1 : Int).toNat ((wrap64 (a1 + (ji17))) : Int).toNat) (bt171.2 != 0)) else (ambrylaw19_BlobPieces.j1 kj7 a1 a2 t155 t160 t161 (a0.extract (a1 : Int).toNat ((wrap64 (a1 + (ji17))) : Int).toNat) true))) = some r := by first | (rw [hy167]; with_reducible exact H) | (have H2_ := (Option.bind_some _ _).symm.trans H; rw [hy167]; with_reducible exact H2_) | (have H2_ := (Option.bind_some _ _).symm.trans H; with_reducible exact H2_) | with_reducible exact H | (rw [hy167]; exact H) | exact H
                          have Ny167 := Aside0.mk hy167
                          clear hy167
                          replace H := Option.bind_eq_some_iff.mp H
                          obtain ⟨⟨t171, t172⟩, A290, H⟩ := H
                          replace H : (if t171.toList = (a0.extract (a1 : Int).toNat ((wrap64 (a1 + (ji17))) : Int).toNat).toList then (ambrylaw19_BlobPieces.j1 kj7 a1 a2 t155 t160 t161 (a0.extract (a1 : Int).toNat ((wrap64 (a1 + (ji17))) : Int).toNat) (t172 != 0)) else (ambrylaw19_BlobPieces.j1 kj7 a1 a2 t155 t160 t161 (a0.extract (a1 : Int).toNat ((wrap64 (a1 + (ji17))) : Int).toNat) true)) = some r := H
                          have A29 := Aside0.mk A290
                          clear A290
                          have HC30 := Aside0.mk H
                          clear H
                          obtain ⟨Ao32, co32, eo32⟩ := Kd.R_slice HO_7.out
                          subst eo32
                          have q31 : ((wrap64 (t160 + t161)) : Int) ≤ ((t155.length : Int) : Int) := of_decide_eq_true (by first | (with_reducible assumption) | assumption)
                          obtain ⟨i031, hi031, _, hsz31, _⟩ := info_parts info9
                          have hroom31 : t155.length ≤ co32 := (Kd.R_reads' HO_7.out).2.1
                          have hC31 : Kd.C Kd.string _ Ao32 t155.length t155 := (Kd.R_reads' HO_7.out).2.2
                          have ql31 : (t160 : Int) ≤ ((wrap64 (t160 + t161)) : Int) := of_decide_eq_true (by first | (with_reducible assumption) | assumption)
                          have q031 : (0 : Int) ≤ (t160 : Int) := of_decide_eq_true (by first | (with_reducible assumption) | assumption)
                          have hcut31 := cut_mid (P := Try.prog) 22 9 .i64 .i64 Try.underlying22 hi031 1 hsz31 Ao32 t155.length co32 t160 (wrap64 (t160 + t161)) q031 ql31 q31 hroom31
                          have hr31 := Kd.C_mid (lo := (t160 : Int).toNat) (hi := ((wrap64 (t160 + t161)) : Int).toNat) (c := co32) hC31 (by omega) (by omega) hroom31
                          obtain ⟨A31, hA31⟩ : ∃ A1, A1 = (if co32 = (t160 : Int).toNat then Ao32 else (Ao32 : Option Addr).map (·.add ((t160 : Int).toNat * 1))) := ⟨_, rfl⟩
                          obtain ⟨c31, hc31⟩ : ∃ c1, c1 = co32 - (t160 : Int).toNat := ⟨_, rfl⟩
                          have hy31 : y167.length = ((wrap64 (t160 + t161)) : Int).toNat - (t160 : Int).toNat := (by rw [Ny167.out, List.length_drop, List.length_take] <;> omega)
                          rw [show ((t155).take ((wrap64 (t160 + t161)) : Int).toNat).drop (t160 : Int).toNat = y167 from Ny167.out.symm] at hr31
                          replace hr31 : Kd.C Kd.string _ A31 y167.length y167 := (by rw [hA31]; exact hr31)
                          rw [← hy31, ← hA31, ← hc31] at hcut31
                          have HR170 := Aside0.mk hr31
                          have HC170 := Aside0.mk (show y167.length ≤ c31 from by rw [hy31, hc31]; exact Nat.sub_le_sub_right (Nat.le_trans (by omega) hroom31) _)
                          clear hr31 hC31 hroom31 hi031 hsz31 hc31
                          have KY31 := Aside0.mk hy31
                          have KA31 := Aside0.mk hA31
                          clear hy31 hA31
                          have KL31 := Aside0.mk (show ((wrap64 (t160 + t161)) : Int).toNat ≤ t155.length from by omega)
                          have KM31 := Aside0.mk (show (t160 : Int).toNat ≤ ((wrap64 (t160 + t161)) : Int).toNat from by omega)
                          replace q31 := eq_true q31
                          go_upto_region 13 with (first | ((with_reducible refine gate_callee (f := 11) rfl ?_); refine goesL_ (some 105) rfl rfl Try.func11 (by kernel_rfl) rfl #[.slice A31 y167.length c31, .int .i64 t160, .int .i64 a1, .int .i64 a2] rfl (by (try simp only [List.map_toArray, List.map_cons, List.map_nil]); first | done | rfl | (simp only [List.length_drop, List.length_take]; rfl)) ?_; (with_reducible refine (blob_Piece.calls kj7 _ _ y167 t160 a1 a2 t171 t172 _ ?side1 ?side2 A29.out).mono ?_); (case side1 => repeat (first | exact (by repeat (first | (with_reducible exact HR170.out) | (with_reducible refine Kd.C_alloc ?_ _) | (with_reducible refine Kd.C_drewN ?_ _) | (with_reducible refine Kd.C_drew ?_) | exact HR170.out)) | (with_reducible refine Kd.C_alloc ?_ _) | (with_reducible refine Kd.C_drewN ?_ _) | (with_reducible refine Kd.C_drew ?_))); (case side2 => exact HC170.out); rintro e w33 ⟨rfl, hb⟩; refine ⟨_, rfl, ?_⟩; have n0_ := Aside0.mk (Kd.R_below (by (with_reducible repeat (first | apply Kd.R_alloc | apply Kd.R_drewN | apply Kd.R_drew)); exact HO_7.out) hb); have n1_ := Aside0.mk (Kd.C_below (by repeat (first | (with_reducible exact HR170.out) | (with_reducible refine Kd.C_alloc ?_ _) | (with_reducible refine Kd.C_drewN ?_ _) | (with_reducible refine Kd.C_drew ?_) | exact HR170.out)) hb); have n2_ := Aside0.mk (below_step (by repeat (first | (with_reducible first | exact HB.out | apply below_alloc | apply pw_below_drewN | apply below_drew1) | exact HB.out)) hb); clear HO_7; clear HR170; clear HB; have HO_7 := n0_; have HR170 := n1_; have HB := n2_; clear n0_ n1_ n2_; (try clear hb); (try clear hb2); (try clear hk); (try clear hi)))
                          (try simp only [Act.put, List.setIfInBounds_toArray, List.set_cons_zero, List.set_cons_succ])
                          go_cut [114] (fun v114 wc => ∃ (kq : Nat) (x114_29 : Bool), v114 = .bool x114_29 ∧ Aside0 (ambrylaw19_BlobPieces.j1 kq a1 a2 t155 t160 t161 (a0.extract (a1 : Int).toNat ((wrap64 (a1 + (ji17))) : Int).toNat) x114_29 = some r) ∧ Aside0 (kq ≤ kj7) ∧ Aside0 (Kd.R Kd.string 9 wc w.heap.size (fun _ => True) (.slice Ao32 t155.length co32) t155) ∧ Aside0 (Kd.C Kd.string wc A31 y167.length y167) ∧ Aside0 (Below w.heap.size w wc))
                          case first =>
                            have H := HC30.out
                            clear HC30
                            by_cases c34 : t171.toList = (a0.extract (a1 : Int).toNat ((wrap64 (a1 + (ji17))) : Int).toNat).toList
                            · rw [if_pos c34] at H
                              have c34b0 : (t171.toList == (a0.extract (a1 : Int).toNat ((wrap64 (a1 + (ji17))) : Int).toNat).toList) = true := beq_iff_eq.mpr c34
                              have c34b1 : (t171.toList != (a0.extract (a1 : Int).toNat ((wrap64 (a1 + (ji17))) : Int).toNat).toList) = false := bne_eq_false_iff_eq.mpr c34
                              clear c34
                              (first | rw [c34b0] | (simp only [i64_w, i32_w]; rw [c34b0]) | skip)
                              have H' := Aside0.mk H
                              clear H
                              go_wp2
                              go_meet
                              case rel => exact ⟨_, ((t172 != 0)), (by first | rfl | (simp; done) | (simp [*]; done)), H', ⟨by have := HJ7.out; first | omega | exact Nat.le_refl _⟩, ⟨by (with_reducible repeat (first | apply Kd.R_alloc | apply Kd.R_drewN | apply Kd.R_drew)); exact HO_7.out⟩, ⟨by repeat (first | (with_reducible exact HR170.out) | (with_reducible refine Kd.C_alloc ?_ _) | (with_reducible refine Kd.C_drewN ?_ _) | (with_reducible refine Kd.C_drew ?_) | exact HR170.out)⟩, ⟨by repeat (first | (with_reducible first | exact HB.out | apply below_alloc | apply pw_below_drewN | apply below_drew1) | exact HB.out)⟩⟩
                            · rw [if_neg c34] at H
                              have c34b0 : (t171.toList == (a0.extract (a1 : Int).toNat ((wrap64 (a1 + (ji17))) : Int).toNat).toList) = false := beq_eq_false_iff_ne.mpr c34
                              have c34b1 : (t171.toList != (a0.extract (a1 : Int).toNat ((wrap64 (a1 + (ji17))) : Int).toNat).toList) = true := bne_iff_ne.mpr c34
                              (first | rw [c34b0] | (simp only [i64_w, i32_w]; rw [c34b0]) | skip)
                              have H' := Aside0.mk H
                              clear H
                              go_wp2
                              go_meet
                              case rel => exact ⟨_, (true), (by first | rfl | (simp; done) | (simp [*]; done)), H', ⟨by have := HJ7.out; first | omega | exact Nat.le_refl _⟩, ⟨by (with_reducible repeat (first | apply Kd.R_alloc | apply Kd.R_drewN | apply Kd.R_drew)); exact HO_7.out⟩, ⟨by repeat (first | (with_reducible exact HR170.out) | (with_reducible refine Kd.C_alloc ?_ _) | (with_reducible refine Kd.C_drewN ?_ _) | (with_reducible refine Kd.C_drew ?_) | exact HR170.out)⟩, ⟨by repeat (first | (with_reducible first | exact HB.out | apply below_alloc | apply pw_below_drewN | apply below_drew1) | exact HB.out)⟩⟩
                          case rest =>
                            clear HC30
                            try clear c1
                            try clear c2
                            try clear p2
                            try clear c3
                            try clear q3
                            try clear c4
                            try clear c5
                            try clear c5b0
                            try clear c5b1
                            try clear p6
                            try clear c7
                            try clear c7b0
                            try clear c7b1
                            try clear c9
                            try clear c11
                            try clear c11b0
                            try clear c12
                            try clear c12b0
                            try clear c13
                            try clear c13b0
                            try clear c16
                            try clear c18
                            try clear c18b0
                            try clear c18b1
                            try clear c19
                            try clear c19b0
                            try clear c19b1
                            try clear c20
                            try clear c20b0
                            try clear c20b1
                            try clear c21
                            try clear c21b0
                            try clear c21b1
                            try clear c22
                            try clear c22b0
                            try clear c22b1
                            try clear c23
                            try clear c23b0
                            try clear c23b1
                            try clear c26
                            try clear c26b0
                            try clear c26b1
                            try clear c27
                            try clear c27b0
                            try clear c27b1
                            try clear c28
                            try clear c28b0
                            try clear c28b1
                            try clear c31
                            try clear q31
                            try clear c34
                            try clear c34b0
                            try clear c34b1
                            try clear p2
                            try clear p6
                            try clear q031
                            try clear q31
                            obtain ⟨kq, x114_29, rfl, HA, HJ29, HO_7, HR170, HB⟩ := hcut
                            obtain ⟨want_, hwant_⟩ : ∃ s_ : ByteArray, (a0.extract (a1 : Int).toNat ((wrap64 (a1 + (ji17))) : Int).toNat) = s_ := ⟨_, rfl⟩
                            rw [hwant_] at HA
                            try rw [hwant_]
                            cases kq with
                            | zero => exact absurd HA.out (by simp [ambrylaw19_BlobPieces.j1])
                            | succ kj29 =>
                              have H := HA.out
                              clear HA
                              simp only [ambrylaw19_BlobPieces.j1] at H
                              by_cases c35 : x114_29 = true
                              · subst c35
                                have H1 : (some false) = some r := by rw [if_pos rfl] at H; exact H
                                clear H
                                have H := H1
                                clear H1
                                obtain rfl := Option.some.inj H
                                go_wp2
                                go_ret
                                exact ⟨by first | rfl | (simp [errW_none, errW_some] <;> rfl) | (simp only [← hji17]; first | rfl | (simp [errW_none, errW_some] <;> rfl)) | (simp [*, errW_none, errW_some] <;> rfl), by repeat (first | (with_reducible first | exact HB.out | apply below_alloc | apply pw_below_drewN | apply below_drew1) | exact HB.out)⟩
                              · replace c35 := Bool.eq_false_iff.mpr c35
                                subst c35
                                have H1 : (if t161 = 1 then ((ambrylaw19_lives.f kj29).bind fun t173 => (some t173)) else (if 0 ≤ t160 then (if t160 ≤ (wrap64 ((wrap64 (t160 + t161)) - 1)) then (if (wrap64 ((wrap64 (t160 + t161)) - 1)) ≤ (t155.length : Int) then ((blob_Piece.f kj29 ((t155.take ((wrap64 ((wrap64 (t160 + t161)) - 1)) : Int).toNat).drop (t160 : Int).toNat) t160 a1 a2).bind fun bt178 => (if bt178.2 = 0 then (if (bt178.1.size : Int) < (want_.size : Int) then (if 0 ≤ (bt178.1.size : Int) then (if (bt178.1.size : Int) ≤ (want_.size : Int) then (if bt178.1.toList = (want_.extract 0 ((bt178.1.size : Int) : Int).toNat).toList then ((ambrylaw19_lives.f kj29).bind fun t180 => (some t180)) else (some false)) else (none)) else (none)) else (some false)) else (some false))) else (none)) else (none)) else (none))) = some r := by rw [if_neg (show ¬ (false = true) by decide)] at H; exact H
                                clear H
                                have H := H1
                                clear H1
                                by_cases c36 : t161 = 1
                                · rw [if_pos c36] at H
                                  have c36b0 : (t161 == 1) = true := beq_iff_eq.mpr c36
                                  have c36b1 : (t161 != 1) = false := bne_eq_false_iff_eq.mpr c36
                                  clear c36
                                  replace H := Option.bind_eq_some_iff.mp H
                                  obtain ⟨t173, A370, H⟩ := H
                                  replace H : (some t173) = some r := H
                                  have A37 := Aside0.mk A370
                                  clear A370
                                  obtain rfl := Option.some.inj H
                                  go_wp2_with (first | ((with_reducible refine gate_callee (f := 8) rfl ?_); refine goesL_ (some 117) rfl rfl Try.func8 (by kernel_rfl) rfl #[] rfl (by (try simp only [List.map_toArray, List.map_cons, List.map_nil]); first | done | rfl | (simp only [List.length_drop, List.length_take]; rfl)) ?_; (with_reducible refine (ambrylaw19_lives.calls kj29  t173 _ A37.out).mono ?_); rintro e w38 ⟨rfl, hb⟩; refine ⟨_, rfl, ?_⟩; have n0_ := Aside0.mk (Kd.R_below (by (with_reducible repeat (first | apply Kd.R_alloc | apply Kd.R_drewN | apply Kd.R_drew)); exact HO_7.out) hb); have n1_ := Aside0.mk (Kd.C_below (by repeat (first | (with_reducible exact HR170.out) | (with_reducible refine Kd.C_alloc ?_ _) | (with_reducible refine Kd.C_drewN ?_ _) | (with_reducible refine Kd.C_drew ?_) | exact HR170.out)) hb); have n2_ := Aside0.mk (below_step (by repeat (first | (with_reducible first | exact HB.out | apply below_alloc | apply pw_below_drewN | apply below_drew1) | exact HB.out)) hb); clear HO_7; clear HR170; clear HB; have HO_7 := n0_; have HR170 := n1_; have HB := n2_; clear n0_ n1_ n2_; (try clear hb); (try clear hb2); (try clear hk); (try clear hi)))
                                  go_ret
                                  exact ⟨by first | rfl | (simp [errW_none, errW_some] <;> rfl) | (simp only [← hji17]; first | rfl | (simp [errW_none, errW_some] <;> rfl)) | (simp [*, errW_none, errW_some] <;> rfl), by repeat (first | (with_reducible first | exact HB.out | apply below_alloc | apply pw_below_drewN | apply below_drew1) | exact HB.out)⟩
                                · rw [if_neg c36] at H
                                  have c36b0 : (t161 == 1) = false := beq_eq_false_iff_ne.mpr c36
                                  have c36b1 : (t161 != 1) = true := bne_iff_ne.mpr c36
                                  by_cases c39 : 0 ≤ t160
                                  · rw [if_pos c39] at H
                                    have c39b0 := eq_true c39
                                    have c39b1 : decide (0 ≤ t160) = true := decide_eq_true c39
                                    clear c39
                                    by_cases c40 : t160 ≤ (wrap64 ((wrap64 (t160 + t161)) - 1))
                                    · rw [if_pos c40] at H
                                      have c40b0 := eq_true c40
                                      have c40b1 : decide (t160 ≤ (wrap64 ((wrap64 (t160 + t161)) - 1))) = true := decide_eq_true c40
                                      by_cases c41 : (wrap64 ((wrap64 (t160 + t161)) - 1)) ≤ (t155.length : Int)
                                      · rw [if_pos c41] at H
                                        have c41b0 := eq_true c41
                                        have c41b1 : decide ((wrap64 ((wrap64 (t160 + t161)) - 1)) ≤ (t155.length : Int)) = true := decide_eq_true c41
                                        obtain ⟨y174, hy174⟩ : ∃ y_ : List ByteArray, y_ = ((t155.take ((wrap64 ((wrap64 (t160 + t161)) - 1)) : Int).toNat).drop (t160 : Int).toNat) := ⟨_, rfl⟩
                                        replace H : ((blob_Piece.f kj29 y174 t160 a1 a2).bind fun bt178 => (if bt178.2 = 0 then (if (bt178.1.size : Int) < (want_.size : Int) then (if 0 ≤ (bt178.1.size : Int) then (if (bt178.1.size : Int) ≤ (want_.size : Int) then (if bt178.1.toList = (want_.extract 0 ((bt178.1.size : Int) : Int).toNat).toList then ((ambrylaw19_lives.f kj29).bind fun t180 => (some t180)) else (some false)) else (none)) else (none)) else (some false)) else (some false))) = some r := by first | (rw [hy174]; with_reducible exact H) | (have H2_ := (Option.bind_some _ _).symm.trans H; rw [hy174]; with_reducible exact H2_) | (have H2_ := (Option.bind_some _ _).symm.trans H; with_reducible exact H2_) | with_reducible exact H | (rw [hy174]; exact H) | exact H
                                        have Ny174 := Aside0.mk hy174
                                        clear hy174
                                        replace H := Option.bind_eq_some_iff.mp H
                                        obtain ⟨⟨t178, t179⟩, A420, H⟩ := H
                                        replace H : (if t179 = 0 then (if (t178.size : Int) < (want_.size : Int) then (if 0 ≤ (t178.size : Int) then (if (t178.size : Int) ≤ (want_.size : Int) then (if t178.toList = (want_.extract 0 ((t178.size : Int) : Int).toNat).toList then ((ambrylaw19_lives.f kj29).bind fun t180 => (some t180)) else (some false)) else (none)) else (none)) else (some false)) else (some false)) = some r := H
                                        have A42 := Aside0.mk A420
                                        clear A420
                                        by_cases c43 : t179 = 0
                                        · rw [if_pos c43] at H
                                          have c43b0 : (t179 == 0) = true := beq_iff_eq.mpr c43
                                          have c43b1 : (t179 != 0) = false := bne_eq_false_iff_eq.mpr c43
                                          clear c43
                                          by_cases c44 : (t178.size : Int) < (want_.size : Int)
                                          · rw [if_pos c44] at H
                                            have c44b0 : decide ((t178.size : Int) < (want_.size : Int)) = true := decide_eq_true c44
                                            have c44b1 : decide (t178.size < want_.size) = true := decide_eq_true (Int.ofNat_lt.mp c44)
                                            clear c44
                                            by_cases c45 : 0 ≤ (t178.size : Int)
                                            · rw [if_pos c45] at H
                                              have c45b0 := eq_true c45
                                              have c45b1 : decide (0 ≤ (t178.size : Int)) = true := decide_eq_true c45
                                              clear c45
                                              by_cases c46 : (t178.size : Int) ≤ (want_.size : Int)
                                              · rw [if_pos c46] at H
                                                have c46b0 := eq_true c46
                                                have c46b1 : decide ((t178.size : Int) ≤ (want_.size : Int)) = true := decide_eq_true c46
                                                by_cases c47 : t178.toList = (want_.extract 0 ((t178.size : Int) : Int).toNat).toList
                                                · rw [if_pos c47] at H
                                                  have c47b0 : (t178.toList == (want_.extract 0 ((t178.size : Int) : Int).toNat).toList) = true := beq_iff_eq.mpr c47
                                                  have c47b1 : (t178.toList != (want_.extract 0 ((t178.size : Int) : Int).toNat).toList) = false := bne_eq_false_iff_eq.mpr c47
                                                  have c47z := eq_true (show t178.toList = (want_.extract 0 t178.size).toList from by simpa only [Int.toNat_natCast] using c47); clear c47
                                                  replace H := Option.bind_eq_some_iff.mp H
                                                  obtain ⟨t180, A480, H⟩ := H
                                                  replace H : (some t180) = some r := H
                                                  have A48 := Aside0.mk A480
                                                  clear A480
                                                  obtain rfl := Option.some.inj H
                                                  have q49 : ((wrap64 ((wrap64 (t160 + t161)) - 1)) : Int) ≤ ((t155.length : Int) : Int) := of_decide_eq_true (by first | (with_reducible assumption) | assumption)
                                                  obtain ⟨i049, hi049, _, hsz49, _⟩ := info_parts info9
                                                  have hroom49 : t155.length ≤ co32 := (Kd.R_reads' HO_7.out).2.1
                                                  have hC49 : Kd.C Kd.string _ Ao32 t155.length t155 := (Kd.R_reads' HO_7.out).2.2
                                                  have ql49 : (t160 : Int) ≤ ((wrap64 ((wrap64 (t160 + t161)) - 1)) : Int) := of_decide_eq_true (by first | (with_reducible assumption) | assumption)
                                                  have q049 : (0 : Int) ≤ (t160 : Int) := of_decide_eq_true (by first | (with_reducible assumption) | assumption)
                                                  have hcut49 := cut_mid (P := Try.prog) 22 9 .i64 .i64 Try.underlying22 hi049 1 hsz49 Ao32 t155.length co32 t160 (wrap64 ((wrap64 (t160 + t161)) - 1)) q049 ql49 q49 hroom49
                                                  have hr49 := Kd.C_mid (lo := (t160 : Int).toNat) (hi := ((wrap64 ((wrap64 (t160 + t161)) - 1)) : Int).toNat) (c := co32) hC49 (by omega) (by omega) hroom49
                                                  obtain ⟨A49, hA49⟩ : ∃ A1, A1 = (if co32 = (t160 : Int).toNat then Ao32 else (Ao32 : Option Addr).map (·.add ((t160 : Int).toNat * 1))) := ⟨_, rfl⟩
                                                  obtain ⟨c49, hc49⟩ : ∃ c1, c1 = co32 - (t160 : Int).toNat := ⟨_, rfl⟩
                                                  have hy49 : y174.length = ((wrap64 ((wrap64 (t160 + t161)) - 1)) : Int).toNat - (t160 : Int).toNat := (by rw [Ny174.out, List.length_drop, List.length_take] <;> omega)
                                                  rw [show ((t155).take ((wrap64 ((wrap64 (t160 + t161)) - 1)) : Int).toNat).drop (t160 : Int).toNat = y174 from Ny174.out.symm] at hr49
                                                  replace hr49 : Kd.C Kd.string _ A49 y174.length y174 := (by rw [hA49]; exact hr49)
                                                  rw [← hy49, ← hA49, ← hc49] at hcut49
                                                  have HR177 := Aside0.mk hr49
                                                  have HC177 := Aside0.mk (show y174.length ≤ c49 from by rw [hy49, hc49]; exact Nat.sub_le_sub_right (Nat.le_trans (by omega) hroom49) _)
                                                  clear hr49 hC49 hroom49 hi049 hsz49 hc49
                                                  have KY49 := Aside0.mk hy49
                                                  have KA49 := Aside0.mk hA49
                                                  clear hy49 hA49
                                                  have KL49 := Aside0.mk (show ((wrap64 ((wrap64 (t160 + t161)) - 1)) : Int).toNat ≤ t155.length from by omega)
                                                  have KM49 := Aside0.mk (show (t160 : Int).toNat ≤ ((wrap64 ((wrap64 (t160 + t161)) - 1)) : Int).toNat from by omega)
                                                  replace q49 := eq_true q49
                                                  go_wp2_with (first | ((with_reducible refine gate_callee (f := 11) rfl ?_); refine goesL_ (some 129) rfl rfl Try.func11 (by kernel_rfl) rfl #[.slice A49 y174.length c49, .int .i64 t160, .int .i64 a1, .int .i64 a2] rfl (by (try simp only [List.map_toArray, List.map_cons, List.map_nil]); first | done | rfl | (simp only [List.length_drop, List.length_take]; rfl)) ?_; (with_reducible refine (blob_Piece.calls kj29 _ _ y174 t160 a1 a2 t178 t179 _ ?side1 ?side2 A42.out).mono ?_); (case side1 => repeat (first | exact (by repeat (first | (with_reducible exact HR177.out) | (with_reducible refine Kd.C_alloc ?_ _) | (with_reducible refine Kd.C_drewN ?_ _) | (with_reducible refine Kd.C_drew ?_) | exact HR177.out)) | (with_reducible refine Kd.C_alloc ?_ _) | (with_reducible refine Kd.C_drewN ?_ _) | (with_reducible refine Kd.C_drew ?_))); (case side2 => exact HC177.out); rintro e w50 ⟨rfl, hb⟩; refine ⟨_, rfl, ?_⟩; have n0_ := Aside0.mk (Kd.R_below (by (with_reducible repeat (first | apply Kd.R_alloc | apply Kd.R_drewN | apply Kd.R_drew)); exact HO_7.out) hb); have n1_ := Aside0.mk (Kd.C_below (by repeat (first | (with_reducible exact HR170.out) | (with_reducible refine Kd.C_alloc ?_ _) | (with_reducible refine Kd.C_drewN ?_ _) | (with_reducible refine Kd.C_drew ?_) | exact HR170.out)) hb); have n2_ := Aside0.mk (Kd.C_below (by repeat (first | (with_reducible exact HR177.out) | (with_reducible refine Kd.C_alloc ?_ _) | (with_reducible refine Kd.C_drewN ?_ _) | (with_reducible refine Kd.C_drew ?_) | exact HR177.out)) hb); have n3_ := Aside0.mk (below_step (by repeat (first | (with_reducible first | exact HB.out | apply below_alloc | apply pw_below_drewN | apply below_drew1) | exact HB.out)) hb); clear HO_7; clear HR170; clear HR177; clear HB; have HO_7 := n0_; have HR170 := n1_; have HR177 := n2_; have HB := n3_; clear n0_ n1_ n2_ n3_; (try clear hb); (try clear hb2); (try clear hk); (try clear hi)) | (go_at_call 8; (with_reducible refine (ambrylaw19_lives.calls kj29  t180 _ A48.out).mono ?_); rintro e w51 ⟨rfl, hb⟩; have n0_ := Aside0.mk (Kd.R_below (by (with_reducible repeat (first | apply Kd.R_alloc | apply Kd.R_drewN | apply Kd.R_drew)); exact HO_7.out) hb); have n1_ := Aside0.mk (Kd.C_below (by repeat (first | (with_reducible exact HR170.out) | (with_reducible refine Kd.C_alloc ?_ _) | (with_reducible refine Kd.C_drewN ?_ _) | (with_reducible refine Kd.C_drew ?_) | exact HR170.out)) hb); have n2_ := Aside0.mk (Kd.C_below (by repeat (first | (with_reducible exact HR177.out) | (with_reducible refine Kd.C_alloc ?_ _) | (with_reducible refine Kd.C_drewN ?_ _) | (with_reducible refine Kd.C_drew ?_) | exact HR177.out)) hb); have n3_ := Aside0.mk (below_step (by repeat (first | (with_reducible first | exact HB.out | apply below_alloc | apply pw_below_drewN | apply below_drew1) | exact HB.out)) hb); clear HO_7; clear HR170; clear HR177; clear HB; have HO_7 := n0_; have HR170 := n1_; have HR177 := n2_; have HB := n3_; clear n0_ n1_ n2_ n3_; (try clear hb); (try clear hb2); (try clear hk); (try clear hi)))
                                                  go_ret
                                                  exact ⟨by first | rfl | (simp [errW_none, errW_some] <;> rfl) | (simp only [← hji17]; first | rfl | (simp [errW_none, errW_some] <;> rfl)) | (simp [*, errW_none, errW_some] <;> rfl), by repeat (first | (with_reducible first | exact HB.out | apply below_alloc | apply pw_below_drewN | apply below_drew1) | exact HB.out)⟩
                                                · rw [if_neg c47] at H
                                                  have c47b0 : (t178.toList == (want_.extract 0 ((t178.size : Int) : Int).toNat).toList) = false := beq_eq_false_iff_ne.mpr c47
                                                  have c47b1 : (t178.toList != (want_.extract 0 ((t178.size : Int) : Int).toNat).toList) = true := bne_iff_ne.mpr c47
                                                  obtain rfl := Option.some.inj H
                                                  have q52 : ((wrap64 ((wrap64 (t160 + t161)) - 1)) : Int) ≤ ((t155.length : Int) : Int) := of_decide_eq_true (by first | (with_reducible assumption) | assumption)
                                                  obtain ⟨i052, hi052, _, hsz52, _⟩ := info_parts info9
                                                  have hroom52 : t155.length ≤ co32 := (Kd.R_reads' HO_7.out).2.1
                                                  have hC52 : Kd.C Kd.string _ Ao32 t155.length t155 := (Kd.R_reads' HO_7.out).2.2
                                                  have ql52 : (t160 : Int) ≤ ((wrap64 ((wrap64 (t160 + t161)) - 1)) : Int) := of_decide_eq_true (by first | (with_reducible assumption) | assumption)
                                                  have q052 : (0 : Int) ≤ (t160 : Int) := of_decide_eq_true (by first | (with_reducible assumption) | assumption)
                                                  have hcut52 := cut_mid (P := Try.prog) 22 9 .i64 .i64 Try.underlying22 hi052 1 hsz52 Ao32 t155.length co32 t160 (wrap64 ((wrap64 (t160 + t161)) - 1)) q052 ql52 q52 hroom52
                                                  have hr52 := Kd.C_mid (lo := (t160 : Int).toNat) (hi := ((wrap64 ((wrap64 (t160 + t161)) - 1)) : Int).toNat) (c := co32) hC52 (by omega) (by omega) hroom52
                                                  obtain ⟨A52, hA52⟩ : ∃ A1, A1 = (if co32 = (t160 : Int).toNat then Ao32 else (Ao32 : Option Addr).map (·.add ((t160 : Int).toNat * 1))) := ⟨_, rfl⟩
                                                  obtain ⟨c52, hc52⟩ : ∃ c1, c1 = co32 - (t160 : Int).toNat := ⟨_, rfl⟩
                                                  have hy52 : y174.length = ((wrap64 ((wrap64 (t160 + t161)) - 1)) : Int).toNat - (t160 : Int).toNat := (by rw [Ny174.out, List.length_drop, List.length_take] <;> omega)
                                                  rw [show ((t155).take ((wrap64 ((wrap64 (t160 + t161)) - 1)) : Int).toNat).drop (t160 : Int).toNat = y174 from Ny174.out.symm] at hr52
                                                  replace hr52 : Kd.C Kd.string _ A52 y174.length y174 := (by rw [hA52]; exact hr52)
                                                  rw [← hy52, ← hA52, ← hc52] at hcut52
                                                  have HR177 := Aside0.mk hr52
                                                  have HC177 := Aside0.mk (show y174.length ≤ c52 from by rw [hy52, hc52]; exact Nat.sub_le_sub_right (Nat.le_trans (by omega) hroom52) _)
                                                  clear hr52 hC52 hroom52 hi052 hsz52 hc52
                                                  have KY52 := Aside0.mk hy52
                                                  have KA52 := Aside0.mk hA52
                                                  clear hy52 hA52
                                                  have KL52 := Aside0.mk (show ((wrap64 ((wrap64 (t160 + t161)) - 1)) : Int).toNat ≤ t155.length from by omega)
                                                  have KM52 := Aside0.mk (show (t160 : Int).toNat ≤ ((wrap64 ((wrap64 (t160 + t161)) - 1)) : Int).toNat from by omega)
                                                  replace q52 := eq_true q52
                                                  go_wp2_with (first | ((with_reducible refine gate_callee (f := 11) rfl ?_); refine goesL_ (some 129) rfl rfl Try.func11 (by kernel_rfl) rfl #[.slice A52 y174.length c52, .int .i64 t160, .int .i64 a1, .int .i64 a2] rfl (by (try simp only [List.map_toArray, List.map_cons, List.map_nil]); first | done | rfl | (simp only [List.length_drop, List.length_take]; rfl)) ?_; (with_reducible refine (blob_Piece.calls kj29 _ _ y174 t160 a1 a2 t178 t179 _ ?side1 ?side2 A42.out).mono ?_); (case side1 => repeat (first | exact (by repeat (first | (with_reducible exact HR177.out) | (with_reducible refine Kd.C_alloc ?_ _) | (with_reducible refine Kd.C_drewN ?_ _) | (with_reducible refine Kd.C_drew ?_) | exact HR177.out)) | (with_reducible refine Kd.C_alloc ?_ _) | (with_reducible refine Kd.C_drewN ?_ _) | (with_reducible refine Kd.C_drew ?_))); (case side2 => exact HC177.out); rintro e w53 ⟨rfl, hb⟩; refine ⟨_, rfl, ?_⟩; have n0_ := Aside0.mk (Kd.R_below (by (with_reducible repeat (first | apply Kd.R_alloc | apply Kd.R_drewN | apply Kd.R_drew)); exact HO_7.out) hb); have n1_ := Aside0.mk (Kd.C_below (by repeat (first | (with_reducible exact HR170.out) | (with_reducible refine Kd.C_alloc ?_ _) | (with_reducible refine Kd.C_drewN ?_ _) | (with_reducible refine Kd.C_drew ?_) | exact HR170.out)) hb); have n2_ := Aside0.mk (Kd.C_below (by repeat (first | (with_reducible exact HR177.out) | (with_reducible refine Kd.C_alloc ?_ _) | (with_reducible refine Kd.C_drewN ?_ _) | (with_reducible refine Kd.C_drew ?_) | exact HR177.out)) hb); have n3_ := Aside0.mk (below_step (by repeat (first | (with_reducible first | exact HB.out | apply below_alloc | apply pw_below_drewN | apply below_drew1) | exact HB.out)) hb); clear HO_7; clear HR170; clear HR177; clear HB; have HO_7 := n0_; have HR170 := n1_; have HR177 := n2_; have HB := n3_; clear n0_ n1_ n2_ n3_; (try clear hb); (try clear hb2); (try clear hk); (try clear hi)))
                                                  go_ret
                                                  exact ⟨by first | rfl | (simp [errW_none, errW_some] <;> rfl) | (simp only [← hji17]; first | rfl | (simp [errW_none, errW_some] <;> rfl)) | (simp [*, errW_none, errW_some] <;> rfl), by repeat (first | (with_reducible first | exact HB.out | apply below_alloc | apply pw_below_drewN | apply below_drew1) | exact HB.out)⟩
                                              · rw [if_neg c46] at H
                                                exact absurd H (by simp)
                                            · rw [if_neg c45] at H
                                              exact absurd H (by simp)
                                          · rw [if_neg c44] at H
                                            have c44b0 : decide ((t178.size : Int) < (want_.size : Int)) = false := decide_eq_false c44
                                            have c44b1 : decide (t178.size < want_.size) = false := decide_eq_false (fun h => c44 (Int.ofNat_lt.mpr h))
                                            clear c44
                                            obtain rfl := Option.some.inj H
                                            have q54 : ((wrap64 ((wrap64 (t160 + t161)) - 1)) : Int) ≤ ((t155.length : Int) : Int) := of_decide_eq_true (by first | (with_reducible assumption) | assumption)
                                            obtain ⟨i054, hi054, _, hsz54, _⟩ := info_parts info9
                                            have hroom54 : t155.length ≤ co32 := (Kd.R_reads' HO_7.out).2.1
                                            have hC54 : Kd.C Kd.string _ Ao32 t155.length t155 := (Kd.R_reads' HO_7.out).2.2
                                            have ql54 : (t160 : Int) ≤ ((wrap64 ((wrap64 (t160 + t161)) - 1)) : Int) := of_decide_eq_true (by first | (with_reducible assumption) | assumption)
                                            have q054 : (0 : Int) ≤ (t160 : Int) := of_decide_eq_true (by first | (with_reducible assumption) | assumption)
                                            have hcut54 := cut_mid (P := Try.prog) 22 9 .i64 .i64 Try.underlying22 hi054 1 hsz54 Ao32 t155.length co32 t160 (wrap64 ((wrap64 (t160 + t161)) - 1)) q054 ql54 q54 hroom54
                                            have hr54 := Kd.C_mid (lo := (t160 : Int).toNat) (hi := ((wrap64 ((wrap64 (t160 + t161)) - 1)) : Int).toNat) (c := co32) hC54 (by omega) (by omega) hroom54
                                            obtain ⟨A54, hA54⟩ : ∃ A1, A1 = (if co32 = (t160 : Int).toNat then Ao32 else (Ao32 : Option Addr).map (·.add ((t160 : Int).toNat * 1))) := ⟨_, rfl⟩
                                            obtain ⟨c54, hc54⟩ : ∃ c1, c1 = co32 - (t160 : Int).toNat := ⟨_, rfl⟩
                                            have hy54 : y174.length = ((wrap64 ((wrap64 (t160 + t161)) - 1)) : Int).toNat - (t160 : Int).toNat := (by rw [Ny174.out, List.length_drop, List.length_take] <;> omega)
                                            rw [show ((t155).take ((wrap64 ((wrap64 (t160 + t161)) - 1)) : Int).toNat).drop (t160 : Int).toNat = y174 from Ny174.out.symm] at hr54
                                            replace hr54 : Kd.C Kd.string _ A54 y174.length y174 := (by rw [hA54]; exact hr54)
                                            rw [← hy54, ← hA54, ← hc54] at hcut54
                                            have HR177 := Aside0.mk hr54
                                            have HC177 := Aside0.mk (show y174.length ≤ c54 from by rw [hy54, hc54]; exact Nat.sub_le_sub_right (Nat.le_trans (by omega) hroom54) _)
                                            clear hr54 hC54 hroom54 hi054 hsz54 hc54
                                            have KY54 := Aside0.mk hy54
                                            have KA54 := Aside0.mk hA54
                                            clear hy54 hA54
                                            have KL54 := Aside0.mk (show ((wrap64 ((wrap64 (t160 + t161)) - 1)) : Int).toNat ≤ t155.length from by omega)
                                            have KM54 := Aside0.mk (show (t160 : Int).toNat ≤ ((wrap64 ((wrap64 (t160 + t161)) - 1)) : Int).toNat from by omega)
                                            replace q54 := eq_true q54
                                            go_wp2_with (first | ((with_reducible refine gate_callee (f := 11) rfl ?_); refine goesL_ (some 129) rfl rfl Try.func11 (by kernel_rfl) rfl #[.slice A54 y174.length c54, .int .i64 t160, .int .i64 a1, .int .i64 a2] rfl (by (try simp only [List.map_toArray, List.map_cons, List.map_nil]); first | done | rfl | (simp only [List.length_drop, List.length_take]; rfl)) ?_; (with_reducible refine (blob_Piece.calls kj29 _ _ y174 t160 a1 a2 t178 t179 _ ?side1 ?side2 A42.out).mono ?_); (case side1 => repeat (first | exact (by repeat (first | (with_reducible exact HR177.out) | (with_reducible refine Kd.C_alloc ?_ _) | (with_reducible refine Kd.C_drewN ?_ _) | (with_reducible refine Kd.C_drew ?_) | exact HR177.out)) | (with_reducible refine Kd.C_alloc ?_ _) | (with_reducible refine Kd.C_drewN ?_ _) | (with_reducible refine Kd.C_drew ?_))); (case side2 => exact HC177.out); rintro e w55 ⟨rfl, hb⟩; refine ⟨_, rfl, ?_⟩; have n0_ := Aside0.mk (Kd.R_below (by (with_reducible repeat (first | apply Kd.R_alloc | apply Kd.R_drewN | apply Kd.R_drew)); exact HO_7.out) hb); have n1_ := Aside0.mk (Kd.C_below (by repeat (first | (with_reducible exact HR170.out) | (with_reducible refine Kd.C_alloc ?_ _) | (with_reducible refine Kd.C_drewN ?_ _) | (with_reducible refine Kd.C_drew ?_) | exact HR170.out)) hb); have n2_ := Aside0.mk (Kd.C_below (by repeat (first | (with_reducible exact HR177.out) | (with_reducible refine Kd.C_alloc ?_ _) | (with_reducible refine Kd.C_drewN ?_ _) | (with_reducible refine Kd.C_drew ?_) | exact HR177.out)) hb); have n3_ := Aside0.mk (below_step (by repeat (first | (with_reducible first | exact HB.out | apply below_alloc | apply pw_below_drewN | apply below_drew1) | exact HB.out)) hb); clear HO_7; clear HR170; clear HR177; clear HB; have HO_7 := n0_; have HR170 := n1_; have HR177 := n2_; have HB := n3_; clear n0_ n1_ n2_ n3_; (try clear hb); (try clear hb2); (try clear hk); (try clear hi)))
                                            go_ret
                                            exact ⟨by first | rfl | (simp [errW_none, errW_some] <;> rfl) | (simp only [← hji17]; first | rfl | (simp [errW_none, errW_some] <;> rfl)) | (simp [*, errW_none, errW_some] <;> rfl), by repeat (first | (with_reducible first | exact HB.out | apply below_alloc | apply pw_below_drewN | apply below_drew1) | exact HB.out)⟩
                                        · rw [if_neg c43] at H
                                          have c43b0 : (t179 == 0) = false := beq_eq_false_iff_ne.mpr c43
                                          have c43b1 : (t179 != 0) = true := bne_iff_ne.mpr c43
                                          obtain rfl := Option.some.inj H
                                          have q56 : ((wrap64 ((wrap64 (t160 + t161)) - 1)) : Int) ≤ ((t155.length : Int) : Int) := of_decide_eq_true (by first | (with_reducible assumption) | assumption)
                                          obtain ⟨i056, hi056, _, hsz56, _⟩ := info_parts info9
                                          have hroom56 : t155.length ≤ co32 := (Kd.R_reads' HO_7.out).2.1
                                          have hC56 : Kd.C Kd.string _ Ao32 t155.length t155 := (Kd.R_reads' HO_7.out).2.2
                                          have ql56 : (t160 : Int) ≤ ((wrap64 ((wrap64 (t160 + t161)) - 1)) : Int) := of_decide_eq_true (by first | (with_reducible assumption) | assumption)
                                          have q056 : (0 : Int) ≤ (t160 : Int) := of_decide_eq_true (by first | (with_reducible assumption) | assumption)
                                          have hcut56 := cut_mid (P := Try.prog) 22 9 .i64 .i64 Try.underlying22 hi056 1 hsz56 Ao32 t155.length co32 t160 (wrap64 ((wrap64 (t160 + t161)) - 1)) q056 ql56 q56 hroom56
                                          have hr56 := Kd.C_mid (lo := (t160 : Int).toNat) (hi := ((wrap64 ((wrap64 (t160 + t161)) - 1)) : Int).toNat) (c := co32) hC56 (by omega) (by omega) hroom56
                                          obtain ⟨A56, hA56⟩ : ∃ A1, A1 = (if co32 = (t160 : Int).toNat then Ao32 else (Ao32 : Option Addr).map (·.add ((t160 : Int).toNat * 1))) := ⟨_, rfl⟩
                                          obtain ⟨c56, hc56⟩ : ∃ c1, c1 = co32 - (t160 : Int).toNat := ⟨_, rfl⟩
                                          have hy56 : y174.length = ((wrap64 ((wrap64 (t160 + t161)) - 1)) : Int).toNat - (t160 : Int).toNat := (by rw [Ny174.out, List.length_drop, List.length_take] <;> omega)
                                          rw [show ((t155).take ((wrap64 ((wrap64 (t160 + t161)) - 1)) : Int).toNat).drop (t160 : Int).toNat = y174 from Ny174.out.symm] at hr56
                                          replace hr56 : Kd.C Kd.string _ A56 y174.length y174 := (by rw [hA56]; exact hr56)
                                          rw [← hy56, ← hA56, ← hc56] at hcut56
                                          have HR177 := Aside0.mk hr56
                                          have HC177 := Aside0.mk (show y174.length ≤ c56 from by rw [hy56, hc56]; exact Nat.sub_le_sub_right (Nat.le_trans (by omega) hroom56) _)
                                          clear hr56 hC56 hroom56 hi056 hsz56 hc56
                                          have KY56 := Aside0.mk hy56
                                          have KA56 := Aside0.mk hA56
                                          clear hy56 hA56
                                          have KL56 := Aside0.mk (show ((wrap64 ((wrap64 (t160 + t161)) - 1)) : Int).toNat ≤ t155.length from by omega)
                                          have KM56 := Aside0.mk (show (t160 : Int).toNat ≤ ((wrap64 ((wrap64 (t160 + t161)) - 1)) : Int).toNat from by omega)
                                          replace q56 := eq_true q56
                                          go_wp2_with (first | ((with_reducible refine gate_callee (f := 11) rfl ?_); refine goesL_ (some 129) rfl rfl Try.func11 (by kernel_rfl) rfl #[.slice A56 y174.length c56, .int .i64 t160, .int .i64 a1, .int .i64 a2] rfl (by (try simp only [List.map_toArray, List.map_cons, List.map_nil]); first | done | rfl | (simp only [List.length_drop, List.length_take]; rfl)) ?_; (with_reducible refine (blob_Piece.calls kj29 _ _ y174 t160 a1 a2 t178 t179 _ ?side1 ?side2 A42.out).mono ?_); (case side1 => repeat (first | exact (by repeat (first | (with_reducible exact HR177.out) | (with_reducible refine Kd.C_alloc ?_ _) | (with_reducible refine Kd.C_drewN ?_ _) | (with_reducible refine Kd.C_drew ?_) | exact HR177.out)) | (with_reducible refine Kd.C_alloc ?_ _) | (with_reducible refine Kd.C_drewN ?_ _) | (with_reducible refine Kd.C_drew ?_))); (case side2 => exact HC177.out); rintro e w57 ⟨rfl, hb⟩; refine ⟨_, rfl, ?_⟩; have n0_ := Aside0.mk (Kd.R_below (by (with_reducible repeat (first | apply Kd.R_alloc | apply Kd.R_drewN | apply Kd.R_drew)); exact HO_7.out) hb); have n1_ := Aside0.mk (Kd.C_below (by repeat (first | (with_reducible exact HR170.out) | (with_reducible refine Kd.C_alloc ?_ _) | (with_reducible refine Kd.C_drewN ?_ _) | (with_reducible refine Kd.C_drew ?_) | exact HR170.out)) hb); have n2_ := Aside0.mk (Kd.C_below (by repeat (first | (with_reducible exact HR177.out) | (with_reducible refine Kd.C_alloc ?_ _) | (with_reducible refine Kd.C_drewN ?_ _) | (with_reducible refine Kd.C_drew ?_) | exact HR177.out)) hb); have n3_ := Aside0.mk (below_step (by repeat (first | (with_reducible first | exact HB.out | apply below_alloc | apply pw_below_drewN | apply below_drew1) | exact HB.out)) hb); clear HO_7; clear HR170; clear HR177; clear HB; have HO_7 := n0_; have HR170 := n1_; have HR177 := n2_; have HB := n3_; clear n0_ n1_ n2_ n3_; (try clear hb); (try clear hb2); (try clear hk); (try clear hi)))
                                          go_ret
                                          exact ⟨by first | rfl | (simp [errW_none, errW_some] <;> rfl) | (simp only [← hji17]; first | rfl | (simp [errW_none, errW_some] <;> rfl)) | (simp [*, errW_none, errW_some] <;> rfl), by repeat (first | (with_reducible first | exact HB.out | apply below_alloc | apply pw_below_drewN | apply below_drew1) | exact HB.out)⟩
                                      · rw [if_neg c41] at H
                                        exact absurd H (by simp)
                                    · rw [if_neg c40] at H
                                      exact absurd H (by simp)
                                  · rw [if_neg c39] at H
                                    exact absurd H (by simp)
                        · rw [if_neg c28] at H
                          exact absurd H (by simp)
                      · rw [if_neg c27] at H
                        exact absurd H (by simp)
                    · rw [if_neg c26] at H
                      exact absurd H (by simp)
                · rw [if_neg c20] at H
                  exact absurd H (by simp)
              · rw [if_neg c19] at H
                exact absurd H (by simp)
            · rw [if_neg c18] at H
              exact absurd H (by simp)
    · rw [if_neg c7] at H
      have c7b0 : (t162 == 0) = false := beq_eq_false_iff_ne.mpr c7
      have c7b1 : (t162 != 0) = true := bne_iff_ne.mpr c7
      by_cases c58 : t162 = 2
      · rw [if_pos c58] at H
        have c58b0 : (t162 == 2) = true := beq_iff_eq.mpr c58
        have c58b1 : (t162 != 2) = false := bne_eq_false_iff_eq.mpr c58
        clear c58
        by_cases c59 : a1 < 0
        · rw [if_pos c59] at H
          have c59b0 : decide (a1 < 0) = true := decide_eq_true c59
          clear c59
          replace H := Option.bind_eq_some_iff.mp H
          obtain ⟨t163, A600, H⟩ := H
          replace H : (some t163) = some r := H
          have A60 := Aside0.mk A600
          clear A600
          obtain rfl := Option.some.inj H
          go_enter Try.func4, Try.ntmps4
          go_wp2_with (first | ((with_reducible refine gate_callee (f := 13) rfl ?_); refine goesL_ (some 17) rfl rfl Try.func13 (by kernel_rfl) rfl #[.string a0] rfl (by (try simp only [List.map_toArray, List.map_cons, List.map_nil]); first | done | rfl | (simp only [List.length_drop, List.length_take]; rfl)) ?_; (with_reducible refine (blob_Cut.calls k a0 t155 t156 _ A4.out).mono ?_); rintro e w61 ⟨v157, rfl, ho0, hb⟩; refine ⟨_, rfl, ?_⟩; have n0_ := Aside0.mk (Kd.R_lower ho0 (below_size (by repeat (first | (with_reducible first | exact HB.out | apply below_alloc | apply pw_below_drewN | apply below_drew1) | exact HB.out)))); have n1_ := Aside0.mk (below_step (by repeat (first | (with_reducible first | exact HB.out | apply below_alloc | apply pw_below_drewN | apply below_drew1) | exact HB.out)) hb); clear HB; have HO158 := n0_; have HB := n1_; clear n0_ n1_; (try clear hb); (try clear hb2); (try clear hk); (try clear hi); (try clear ho0)) | ((with_reducible refine gate_callee (f := 9) rfl ?_); refine goesL_ (some 28) rfl rfl Try.func9 (by kernel_rfl) rfl #[.int .i64 (a0.size : Int), .int .i64 a1, .int .i64 a2] rfl (by (try simp only [List.map_toArray, List.map_cons, List.map_nil]); first | done | rfl | (simp only [List.length_drop, List.length_take]; rfl)) ?_; (with_reducible refine (blob_Need.calls k (a0.size : Int) a1 a2 t160 t161 t162 _ A6.out).mono ?_); rintro e w62 ⟨rfl, hb⟩; refine ⟨_, rfl, ?_⟩; have n0_ := Aside0.mk (Kd.R_below (by (with_reducible repeat (first | apply Kd.R_alloc | apply Kd.R_drewN | apply Kd.R_drew)); exact HO158.out) hb); have n1_ := Aside0.mk (below_step (by repeat (first | (with_reducible first | exact HB.out | apply below_alloc | apply pw_below_drewN | apply below_drew1) | exact HB.out)) hb); clear HO158; clear HB; have HO158 := n0_; have HB := n1_; clear n0_ n1_; (try clear hb); (try clear hb2); (try clear hk); (try clear hi)) | (go_at_call 8; (with_reducible refine (ambrylaw19_lives.calls k  t163 _ A60.out).mono ?_); rintro e w63 ⟨rfl, hb⟩; have n0_ := Aside0.mk (Kd.R_below (by (with_reducible repeat (first | apply Kd.R_alloc | apply Kd.R_drewN | apply Kd.R_drew)); exact HO158.out) hb); have n1_ := Aside0.mk (below_step (by repeat (first | (with_reducible first | exact HB.out | apply below_alloc | apply pw_below_drewN | apply below_drew1) | exact HB.out)) hb); clear HO158; clear HB; have HO158 := n0_; have HB := n1_; clear n0_ n1_; (try clear hb); (try clear hb2); (try clear hk); (try clear hi)))
          go_ret
          exact ⟨by first | rfl | (simp [errW_none, errW_some] <;> rfl) | (simp [*, errW_none, errW_some] <;> rfl), by repeat (first | (with_reducible first | exact HB.out | apply below_alloc | apply pw_below_drewN | apply below_drew1) | exact HB.out)⟩
        · rw [if_neg c59] at H
          have c59b0 : decide (a1 < 0) = false := decide_eq_false c59
          clear c59
          by_cases c64 : a1 > (a0.size : Int)
          · rw [if_pos c64] at H
            have c64b0 : decide ((a0.size : Int) < a1) = true := decide_eq_true c64
            clear c64
            replace H := Option.bind_eq_some_iff.mp H
            obtain ⟨t164, A650, H⟩ := H
            replace H : (some t164) = some r := H
            have A65 := Aside0.mk A650
            clear A650
            obtain rfl := Option.some.inj H
            go_enter Try.func4, Try.ntmps4
            go_wp2_with (first | ((with_reducible refine gate_callee (f := 13) rfl ?_); refine goesL_ (some 17) rfl rfl Try.func13 (by kernel_rfl) rfl #[.string a0] rfl (by (try simp only [List.map_toArray, List.map_cons, List.map_nil]); first | done | rfl | (simp only [List.length_drop, List.length_take]; rfl)) ?_; (with_reducible refine (blob_Cut.calls k a0 t155 t156 _ A4.out).mono ?_); rintro e w66 ⟨v157, rfl, ho0, hb⟩; refine ⟨_, rfl, ?_⟩; have n0_ := Aside0.mk (Kd.R_lower ho0 (below_size (by repeat (first | (with_reducible first | exact HB.out | apply below_alloc | apply pw_below_drewN | apply below_drew1) | exact HB.out)))); have n1_ := Aside0.mk (below_step (by repeat (first | (with_reducible first | exact HB.out | apply below_alloc | apply pw_below_drewN | apply below_drew1) | exact HB.out)) hb); clear HB; have HO158 := n0_; have HB := n1_; clear n0_ n1_; (try clear hb); (try clear hb2); (try clear hk); (try clear hi); (try clear ho0)) | ((with_reducible refine gate_callee (f := 9) rfl ?_); refine goesL_ (some 28) rfl rfl Try.func9 (by kernel_rfl) rfl #[.int .i64 (a0.size : Int), .int .i64 a1, .int .i64 a2] rfl (by (try simp only [List.map_toArray, List.map_cons, List.map_nil]); first | done | rfl | (simp only [List.length_drop, List.length_take]; rfl)) ?_; (with_reducible refine (blob_Need.calls k (a0.size : Int) a1 a2 t160 t161 t162 _ A6.out).mono ?_); rintro e w67 ⟨rfl, hb⟩; refine ⟨_, rfl, ?_⟩; have n0_ := Aside0.mk (Kd.R_below (by (with_reducible repeat (first | apply Kd.R_alloc | apply Kd.R_drewN | apply Kd.R_drew)); exact HO158.out) hb); have n1_ := Aside0.mk (below_step (by repeat (first | (with_reducible first | exact HB.out | apply below_alloc | apply pw_below_drewN | apply below_drew1) | exact HB.out)) hb); clear HO158; clear HB; have HO158 := n0_; have HB := n1_; clear n0_ n1_; (try clear hb); (try clear hb2); (try clear hk); (try clear hi)) | (go_at_call 8; (with_reducible refine (ambrylaw19_lives.calls k  t164 _ A65.out).mono ?_); rintro e w68 ⟨rfl, hb⟩; have n0_ := Aside0.mk (Kd.R_below (by (with_reducible repeat (first | apply Kd.R_alloc | apply Kd.R_drewN | apply Kd.R_drew)); exact HO158.out) hb); have n1_ := Aside0.mk (below_step (by repeat (first | (with_reducible first | exact HB.out | apply below_alloc | apply pw_below_drewN | apply below_drew1) | exact HB.out)) hb); clear HO158; clear HB; have HO158 := n0_; have HB := n1_; clear n0_ n1_; (try clear hb); (try clear hb2); (try clear hk); (try clear hi)))
            go_ret
            exact ⟨by first | rfl | (simp [errW_none, errW_some] <;> rfl) | (simp [*, errW_none, errW_some] <;> rfl), by repeat (first | (with_reducible first | exact HB.out | apply below_alloc | apply pw_below_drewN | apply below_drew1) | exact HB.out)⟩
          · rw [if_neg c64] at H
            have c64b0 : decide ((a0.size : Int) < a1) = false := decide_eq_false c64
            clear c64
            by_cases c69 : a2 < 0
            · rw [if_pos c69] at H
              have c69b0 : decide (a2 < 0) = true := decide_eq_true c69
              clear c69
              replace H := Option.bind_eq_some_iff.mp H
              obtain ⟨t165, A700, H⟩ := H
              replace H : (some t165) = some r := H
              have A70 := Aside0.mk A700
              clear A700
              obtain rfl := Option.some.inj H
              go_enter Try.func4, Try.ntmps4
              go_wp2_with (first | ((with_reducible refine gate_callee (f := 13) rfl ?_); refine goesL_ (some 17) rfl rfl Try.func13 (by kernel_rfl) rfl #[.string a0] rfl (by (try simp only [List.map_toArray, List.map_cons, List.map_nil]); first | done | rfl | (simp only [List.length_drop, List.length_take]; rfl)) ?_; (with_reducible refine (blob_Cut.calls k a0 t155 t156 _ A4.out).mono ?_); rintro e w71 ⟨v157, rfl, ho0, hb⟩; refine ⟨_, rfl, ?_⟩; have n0_ := Aside0.mk (Kd.R_lower ho0 (below_size (by repeat (first | (with_reducible first | exact HB.out | apply below_alloc | apply pw_below_drewN | apply below_drew1) | exact HB.out)))); have n1_ := Aside0.mk (below_step (by repeat (first | (with_reducible first | exact HB.out | apply below_alloc | apply pw_below_drewN | apply below_drew1) | exact HB.out)) hb); clear HB; have HO158 := n0_; have HB := n1_; clear n0_ n1_; (try clear hb); (try clear hb2); (try clear hk); (try clear hi); (try clear ho0)) | ((with_reducible refine gate_callee (f := 9) rfl ?_); refine goesL_ (some 28) rfl rfl Try.func9 (by kernel_rfl) rfl #[.int .i64 (a0.size : Int), .int .i64 a1, .int .i64 a2] rfl (by (try simp only [List.map_toArray, List.map_cons, List.map_nil]); first | done | rfl | (simp only [List.length_drop, List.length_take]; rfl)) ?_; (with_reducible refine (blob_Need.calls k (a0.size : Int) a1 a2 t160 t161 t162 _ A6.out).mono ?_); rintro e w72 ⟨rfl, hb⟩; refine ⟨_, rfl, ?_⟩; have n0_ := Aside0.mk (Kd.R_below (by (with_reducible repeat (first | apply Kd.R_alloc | apply Kd.R_drewN | apply Kd.R_drew)); exact HO158.out) hb); have n1_ := Aside0.mk (below_step (by repeat (first | (with_reducible first | exact HB.out | apply below_alloc | apply pw_below_drewN | apply below_drew1) | exact HB.out)) hb); clear HO158; clear HB; have HO158 := n0_; have HB := n1_; clear n0_ n1_; (try clear hb); (try clear hb2); (try clear hk); (try clear hi)) | (go_at_call 8; (with_reducible refine (ambrylaw19_lives.calls k  t165 _ A70.out).mono ?_); rintro e w73 ⟨rfl, hb⟩; have n0_ := Aside0.mk (Kd.R_below (by (with_reducible repeat (first | apply Kd.R_alloc | apply Kd.R_drewN | apply Kd.R_drew)); exact HO158.out) hb); have n1_ := Aside0.mk (below_step (by repeat (first | (with_reducible first | exact HB.out | apply below_alloc | apply pw_below_drewN | apply below_drew1) | exact HB.out)) hb); clear HO158; clear HB; have HO158 := n0_; have HB := n1_; clear n0_ n1_; (try clear hb); (try clear hb2); (try clear hk); (try clear hi)))
              go_ret
              exact ⟨by first | rfl | (simp [errW_none, errW_some] <;> rfl) | (simp [*, errW_none, errW_some] <;> rfl), by repeat (first | (with_reducible first | exact HB.out | apply below_alloc | apply pw_below_drewN | apply below_drew1) | exact HB.out)⟩
            · rw [if_neg c69] at H
              have c69b0 : decide (a2 < 0) = false := decide_eq_false c69
              clear c69
              obtain rfl := Option.some.inj H
              go_enter Try.func4, Try.ntmps4
              go_wp2_with (first | ((with_reducible refine gate_callee (f := 13) rfl ?_); refine goesL_ (some 17) rfl rfl Try.func13 (by kernel_rfl) rfl #[.string a0] rfl (by (try simp only [List.map_toArray, List.map_cons, List.map_nil]); first | done | rfl | (simp only [List.length_drop, List.length_take]; rfl)) ?_; (with_reducible refine (blob_Cut.calls k a0 t155 t156 _ A4.out).mono ?_); rintro e w74 ⟨v157, rfl, ho0, hb⟩; refine ⟨_, rfl, ?_⟩; have n0_ := Aside0.mk (Kd.R_lower ho0 (below_size (by repeat (first | (with_reducible first | exact HB.out | apply below_alloc | apply pw_below_drewN | apply below_drew1) | exact HB.out)))); have n1_ := Aside0.mk (below_step (by repeat (first | (with_reducible first | exact HB.out | apply below_alloc | apply pw_below_drewN | apply below_drew1) | exact HB.out)) hb); clear HB; have HO158 := n0_; have HB := n1_; clear n0_ n1_; (try clear hb); (try clear hb2); (try clear hk); (try clear hi); (try clear ho0)) | ((with_reducible refine gate_callee (f := 9) rfl ?_); refine goesL_ (some 28) rfl rfl Try.func9 (by kernel_rfl) rfl #[.int .i64 (a0.size : Int), .int .i64 a1, .int .i64 a2] rfl (by (try simp only [List.map_toArray, List.map_cons, List.map_nil]); first | done | rfl | (simp only [List.length_drop, List.length_take]; rfl)) ?_; (with_reducible refine (blob_Need.calls k (a0.size : Int) a1 a2 t160 t161 t162 _ A6.out).mono ?_); rintro e w75 ⟨rfl, hb⟩; refine ⟨_, rfl, ?_⟩; have n0_ := Aside0.mk (Kd.R_below (by (with_reducible repeat (first | apply Kd.R_alloc | apply Kd.R_drewN | apply Kd.R_drew)); exact HO158.out) hb); have n1_ := Aside0.mk (below_step (by repeat (first | (with_reducible first | exact HB.out | apply below_alloc | apply pw_below_drewN | apply below_drew1) | exact HB.out)) hb); clear HO158; clear HB; have HO158 := n0_; have HB := n1_; clear n0_ n1_; (try clear hb); (try clear hb2); (try clear hk); (try clear hi)))
              go_ret
              exact ⟨by first | rfl | (simp [errW_none, errW_some] <;> rfl) | (simp [*, errW_none, errW_some] <;> rfl), by repeat (first | (with_reducible first | exact HB.out | apply below_alloc | apply pw_below_drewN | apply below_drew1) | exact HB.out)⟩
      · rw [if_neg c58] at H
        have c58b0 : (t162 == 2) = false := beq_eq_false_iff_ne.mpr c58
        have c58b1 : (t162 != 2) = true := bne_iff_ne.mpr c58
        obtain rfl := Option.some.inj H
        go_enter Try.func4, Try.ntmps4
        go_wp2_with (first | ((with_reducible refine gate_callee (f := 13) rfl ?_); refine goesL_ (some 17) rfl rfl Try.func13 (by kernel_rfl) rfl #[.string a0] rfl (by (try simp only [List.map_toArray, List.map_cons, List.map_nil]); first | done | rfl | (simp only [List.length_drop, List.length_take]; rfl)) ?_; (with_reducible refine (blob_Cut.calls k a0 t155 t156 _ A4.out).mono ?_); rintro e w76 ⟨v157, rfl, ho0, hb⟩; refine ⟨_, rfl, ?_⟩; have n0_ := Aside0.mk (Kd.R_lower ho0 (below_size (by repeat (first | (with_reducible first | exact HB.out | apply below_alloc | apply pw_below_drewN | apply below_drew1) | exact HB.out)))); have n1_ := Aside0.mk (below_step (by repeat (first | (with_reducible first | exact HB.out | apply below_alloc | apply pw_below_drewN | apply below_drew1) | exact HB.out)) hb); clear HB; have HO158 := n0_; have HB := n1_; clear n0_ n1_; (try clear hb); (try clear hb2); (try clear hk); (try clear hi); (try clear ho0)) | ((with_reducible refine gate_callee (f := 9) rfl ?_); refine goesL_ (some 28) rfl rfl Try.func9 (by kernel_rfl) rfl #[.int .i64 (a0.size : Int), .int .i64 a1, .int .i64 a2] rfl (by (try simp only [List.map_toArray, List.map_cons, List.map_nil]); first | done | rfl | (simp only [List.length_drop, List.length_take]; rfl)) ?_; (with_reducible refine (blob_Need.calls k (a0.size : Int) a1 a2 t160 t161 t162 _ A6.out).mono ?_); rintro e w77 ⟨rfl, hb⟩; refine ⟨_, rfl, ?_⟩; have n0_ := Aside0.mk (Kd.R_below (by (with_reducible repeat (first | apply Kd.R_alloc | apply Kd.R_drewN | apply Kd.R_drew)); exact HO158.out) hb); have n1_ := Aside0.mk (below_step (by repeat (first | (with_reducible first | exact HB.out | apply below_alloc | apply pw_below_drewN | apply below_drew1) | exact HB.out)) hb); clear HO158; clear HB; have HO158 := n0_; have HB := n1_; clear n0_ n1_; (try clear hb); (try clear hb2); (try clear hk); (try clear hi)))
        go_ret
        exact ⟨by first | rfl | (simp [errW_none, errW_some] <;> rfl) | (simp [*, errW_none, errW_some] <;> rfl), by repeat (first | (with_reducible first | exact HB.out | apply below_alloc | apply pw_below_drewN | apply below_drew1) | exact HB.out)⟩
  · rw [if_neg c5] at H
    have c5b0 : (t156 == 0) = false := beq_eq_false_iff_ne.mpr c5
    have c5b1 : (t156 != 0) = true := bne_iff_ne.mpr c5
    replace H := Option.bind_eq_some_iff.mp H
    obtain ⟨t159, A780, H⟩ := H
    replace H : (some t159) = some r := H
    have A78 := Aside0.mk A780
    clear A780
    obtain rfl := Option.some.inj H
    go_enter Try.func4, Try.ntmps4
    go_wp2_with (first | ((with_reducible refine gate_callee (f := 13) rfl ?_); refine goesL_ (some 17) rfl rfl Try.func13 (by kernel_rfl) rfl #[.string a0] rfl (by (try simp only [List.map_toArray, List.map_cons, List.map_nil]); first | done | rfl | (simp only [List.length_drop, List.length_take]; rfl)) ?_; (with_reducible refine (blob_Cut.calls k a0 t155 t156 _ A4.out).mono ?_); rintro e w79 ⟨v157, rfl, ho0, hb⟩; refine ⟨_, rfl, ?_⟩; have n0_ := Aside0.mk (Kd.R_lower ho0 (below_size (by repeat (first | (with_reducible first | exact HB.out | apply below_alloc | apply pw_below_drewN | apply below_drew1) | exact HB.out)))); have n1_ := Aside0.mk (below_step (by repeat (first | (with_reducible first | exact HB.out | apply below_alloc | apply pw_below_drewN | apply below_drew1) | exact HB.out)) hb); clear HB; have HO158 := n0_; have HB := n1_; clear n0_ n1_; (try clear hb); (try clear hb2); (try clear hk); (try clear hi); (try clear ho0)) | ((with_reducible refine gate_callee (f := 8) rfl ?_); refine goesL_ (some 22) rfl rfl Try.func8 (by kernel_rfl) rfl #[] rfl (by (try simp only [List.map_toArray, List.map_cons, List.map_nil]); first | done | rfl | (simp only [List.length_drop, List.length_take]; rfl)) ?_; (with_reducible refine (ambrylaw19_lives.calls k  t159 _ A78.out).mono ?_); rintro e w80 ⟨rfl, hb⟩; refine ⟨_, rfl, ?_⟩; have n0_ := Aside0.mk (Kd.R_below (by (with_reducible repeat (first | apply Kd.R_alloc | apply Kd.R_drewN | apply Kd.R_drew)); exact HO158.out) hb); have n1_ := Aside0.mk (below_step (by repeat (first | (with_reducible first | exact HB.out | apply below_alloc | apply pw_below_drewN | apply below_drew1) | exact HB.out)) hb); clear HO158; clear HB; have HO158 := n0_; have HB := n1_; clear n0_ n1_; (try clear hb); (try clear hb2); (try clear hk); (try clear hi)))
    go_ret
    exact ⟨by first | rfl | (simp [errW_none, errW_some] <;> rfl) | (simp [*, errW_none, errW_some] <;> rfl), by repeat (first | (with_reducible first | exact HB.out | apply below_alloc | apply pw_below_drewN | apply below_drew1) | exact HB.out)⟩

/-- THE ONE PURE STATEMENT of ambrylaw19_BlobPieces: yours. -/
def ambrylaw19_BlobPieces.Pure : Prop := ∀ (a0 : ByteArray) (a1 : Int) (a2 : Int), a0.size ≤ 140737488351232 → (Lit.int .i64 a1).wf = true → (Lit.int .i64 a2).wf = true → ∃ k, ambrylaw19_BlobPieces.f k a0 a1 a2 = some true
theorem ambrylaw19_BlobPieces.walk (P : ambrylaw19_BlobPieces.Pure) (a0 : ByteArray) (a1 : Int) (a2 : Int) (w : World) (w0 : a0.size ≤ 140737488351232) (w1 : (Lit.int .i64 a1).wf = true) (w2 : (Lit.int .i64 a2).wf = true) :
    Calls Try.prog 4 #[.string a0, .int .i64 a1, .int .i64 a2] w fun e w' => e = .returned (.bool true) ∧ Below w.heap.size w w' := by
  obtain ⟨k, h⟩ := P a0 a1 a2 w0 w1 w2
  refine (ambrylaw19_BlobPieces.calls k a0 a1 a2 true w h).mono ?_
  rintro e w' ⟨rfl, hd⟩
  exact ⟨rfl, hd⟩

end Go.Proofs.Ytlbfegnmkddlbaa.A
