/- The document's examples. -/
import Derived.Test.YtdjpohmgljhhcaaX22
import Derived.Lib.SlBytesConst
namespace Go.Proofs.Ytdjpohmgljhhcaa.A
open Go.RowKit Go.Proofs.YtdjpohmgljhhcaaW.PrintWords Go.Proofs.YtdjpohmgljhhcaaW.PrintLast Go.Proofs.YtdjpohmgljhhcaaW.PrintMore
set_option linter.unusedVariables false
set_option linter.unusedSimpArgs false
set_option maxHeartbeats 4000000
set_option maxRecDepth 100000
theorem secOf_append (K : Nat → List Value) (P Q : List (List Value × Nat)) (i : Nat) (h : ∀ x ∈ Q, x.2 ≠ i) : secOf K (P ++ Q) i = secOf K P i := by
  unfold secOf
  rw [List.foldl_append]
  generalize List.foldl (fun cs (x : List Value × Nat) => if x.2 = i then x.1 else cs) (K i) P = z
  induction Q generalizing z with
  | nil => rfl
  | cons x Q ih =>
    rw [List.foldl_cons, if_neg (h x (by simp))]
    exact ih (fun y hy => h y (by simp [hy])) z
theorem secOf_wrote_ne (K : Nat → List Value) (P : List (List Value × Nat)) (fr i m : Nat) (cs : List Value) (k : Nat) (hk : k ≤ 8) (j : Nat) (hj : j < 8) (h : i ≠ m) : secOf K (P ++ wrote fr i cs k) (fr + m * 8 + j) = secOf K P (fr + m * 8 + j) := by
  refine secOf_append K P _ _ (fun x hx => ?_)
  simp only [wrote, List.mem_map, List.mem_range] at hx
  obtain ⟨y, hy, rfl⟩ := hx
  show fr + i * 8 + y ≠ fr + m * 8 + j
  omega
theorem secOf_wrote_eq (K : Nat → List Value) (P : List (List Value × Nat)) (fr i : Nat) (cs : List Value) (j : Nat) : ∀ k, j < k → secOf K (P ++ wrote fr i cs k) (fr + i * 8 + j) = cut cs j := by
  intro k
  induction k with
  | zero => intro h; omega
  | succ k ih =>
    intro h
    rw [wrote_succ, ← List.append_assoc, secOf_snoc]
    by_cases e : k = j
    · subst e; rw [if_pos rfl]
    · rw [if_neg (by omega), ih (by omega)]
/-- A write of one letter to the least free page. -/
def WroteLit (N p d fr n dn : Nat) (S : Nat → Nat) (K : Nat → List Value) (P : List (List Value × Nat)) (x : Int) (i : Nat) (w : World) (e : Ending) (w' : World) : Prop :=
  ∃ P', e = .returned (.tuple #[.int .i64 (i : Int), .int .i64 0]) ∧ IsPager N w' p d fr n dn (upd S i 2) K P' ∧ Moves Mp N w w' ∧ P'.length = P.length + 8 ∧ ∀ m, secOf K P' (fr + m * 8 + 0) = if i = m then cut [.int .u8 x] 0 else secOf K P (fr + m * 8 + 0)
theorem lit_blk (w : World) (x : Int) : (w.alloc (.cells #[.int .u8 x] 5 (1, 2))).heap[w.heap.size]? = some (.cells #[.int .u8 x] 5 (1, 2)) := by
  show (w.heap.push _)[w.heap.size]? = _
  simp
theorem bytes_lit (w : World) (x : Int) (y : Nat) (hy : y < 256) (hx : (y : Int) = x) : BytesAt (w.alloc (.cells #[.int .u8 x] 5 (1, 2))) (some ⟨w.heap.size, 0, none⟩) 1 [.int .u8 x] where
  len := rfl
  bytes := fun v hv => ⟨y, hy, by simp at hv; rw [hv, ← hx]⟩
  at_ := fun _ => ⟨_, 0, rfl, by
    intro j v hv
    have hj : j = 0 := by
      cases j with
      | zero => rfl
      | succ j => simp at hv
    subst hj
    simp at hv
    subst hv
    simp only [World.cell?, lit_blk w x]
    rfl, _, _, _, lit_blk w x, rfl⟩
theorem Write_lit {N : Nat} {w : World} {p d fr n dn : Nat} {S : Nat → Nat} {K : Nat → List Value} {P : List (List Value × Nat)} (h : IsPager N w p d fr n dn S K P) (hP : P.length ≤ 90000) (x : Int) (y : Nat) (hy : y < 256) (hx : (y : Int) = x) (i : Nat) (h1 : i < n) (h2 : S i = 0) (h3 : ∀ j, j < i → S j ≠ 0) :
    Calls Try.prog 15 #[.pointer (some ⟨p, 0, none⟩), .slice (some ⟨w.heap.size, 0, none⟩) 1 1] (w.alloc (.cells #[.int .u8 x] 5 (1, 2))) (WroteLit N p d fr n dn S K P x i w) := by
  refine (Write_calls (h.grown (below_alloc (Below.refl _ _) _)) hP _ 1 1 _ (bytes_lit w x y hy hx)).mono ?_
  rintro e w' (⟨g, _⟩ | ⟨_, j, a1, a2, a3, rfl, a4, a5⟩ | ⟨_, g, _⟩)
  · simp at g
  · have : j = i := by
      rcases Nat.lt_trichotomy j i with g | g | g
      · exact absurd a2 (h3 j g)
      · exact g
      · exact absurd h2 (a3 i g)
    subst this
    refine ⟨_, rfl, a4, (Moves.of_below (below_alloc (Below.refl _ _) _) h.lt).trans a5, by rw [List.length_append, wrote_len], fun m => ?_⟩
    by_cases e : j = m
    · subst e; rw [if_pos rfl, secOf_wrote_eq K P fr j _ 0 8 (by decide)]
    · rw [if_neg e, secOf_wrote_ne K P fr j m _ 8 (by decide) 0 (by decide) e]
  · exact absurd h2 (g i h1)
/-- A write of one letter where no page is free. -/
def WroteNot (N p d fr n dn : Nat) (S : Nat → Nat) (K : Nat → List Value) (P : List (List Value × Nat)) (w : World) (e : Ending) (w' : World) : Prop :=
  e = .returned (.tuple #[.int .i64 0, .int .i64 10]) ∧ IsPager N w' p d fr n dn S K P ∧ Moves Mp N w w'
theorem Write_lit_full {N : Nat} {w : World} {p d fr n dn : Nat} {S : Nat → Nat} {K : Nat → List Value} {P : List (List Value × Nat)} (h : IsPager N w p d fr n dn S K P) (hP : P.length ≤ 90000) (x : Int) (y : Nat) (hy : y < 256) (hx : (y : Int) = x) (h3 : ∀ j, j < n → S j ≠ 0) :
    Calls Try.prog 15 #[.pointer (some ⟨p, 0, none⟩), .slice (some ⟨w.heap.size, 0, none⟩) 1 1] (w.alloc (.cells #[.int .u8 x] 5 (1, 2))) (WroteNot N p d fr n dn S K P w) := by
  refine (Write_calls (h.grown (below_alloc (Below.refl _ _) _)) hP _ 1 1 _ (bytes_lit w x y hy hx)).mono ?_
  rintro e w' (⟨g, _⟩ | ⟨_, j, a1, a2, _⟩ | ⟨_, g, rfl, a4, a5⟩)
  · simp at g
  · exact absurd a2 (h3 j a1)
  · exact ⟨rfl, a4, (Moves.of_below (below_alloc (Below.refl _ _) _) h.lt).trans a5⟩
theorem lit_one (w : World) (x : Nat) (y : Int) (hx : (x : Int) = y) : NumsIn (w.alloc (.cells #[.int .i64 y] 3)) (.slice (some ⟨w.heap.size, 0, none⟩) 1 1) (some ⟨w.heap.size, 0, none⟩) 1 [x] where
  val := rfl
  cell := by
    subst hx
    intro j hj
    obtain rfl : j = 0 := by simp at hj; omega
    exact ⟨_, rfl, (blk_cell (blk_new w _) 0).trans rfl⟩
theorem lit_two (w : World) : NumsIn (w.alloc (.cells #[.int .i64 0, .int .i64 1] 3)) (.slice (some ⟨w.heap.size, 0, none⟩) 2 2) (some ⟨w.heap.size, 0, none⟩) 2 [0, 1] where
  val := rfl
  cell := by
    intro j hj
    have hj2 : j = 0 ∨ j = 1 := by simp at hj; omega
    rcases hj2 with rfl | rfl
    · exact ⟨_, rfl, (blk_cell (blk_new w _) 0).trans rfl⟩
    · exact ⟨_, rfl, (blk_cell (blk_new w _) 1).trans rfl⟩
theorem same_true {w : World} {v1 v2 : Value} {A1 A2 : Option Addr} {c1 c2 : Nat} {L1 L2 : List Nat} (h1 : NumsIn w v1 A1 c1 L1) (h2 : NumsIn w v2 A2 c2 L2) (hl2 : L2.length ≤ 16400) (he : L1 = L2) : Calls Try.prog 14 #[v1, v2] w fun e w' => e = .returned (.bool true) ∧ Drawn0 w w' := by
  subst he
  refine (Same_calls h1 h2 (by omega) (by omega)).mono ?_
  rintro e w' ⟨rfl, h⟩
  exact ⟨by simp, h⟩
abbrev ls0 : Nat → Nat := fun _ => 0
abbrev ls1 : Nat → Nat := upd ls0 0 2
abbrev ls2 : Nat → Nat := upd ls1 1 2
abbrev ls3 : Nat → Nat := turnS 3 2 ls2
abbrev ls4 : Nat → Nat := relS 3 ls3 0
abbrev ls5 : Nat → Nat := upd ls4 2 2
abbrev ls6 : Nat → Nat := turnS 2 3 ls5
abbrev ls7 : Nat → Nat := upd ls6 2 2
abbrev ls8 : Nat → Nat := relS 3 ls7 0
abbrev ls9 : Nat → Nat := turnS 3 2 ls8
theorem lw2 : ls1 1 = 0 ∧ ∀ j, j < 1 → ls1 j ≠ 0 := by decide
theorem lw5 : ls4 2 = 0 ∧ ∀ j, j < 2 → ls4 j ≠ 0 := by decide
theorem lwf : ∀ j, j < 3 → ls5 j ≠ 0 := by decide
theorem lw7 : ls6 2 = 0 ∧ ∀ j, j < 2 → ls6 j ≠ 0 := by decide
theorem lw10 : ls9 0 = 0 ∧ ∀ j, j < 0 → ls9 j ≠ 0 := ⟨by decide, fun j h => by omega⟩
theorem lp1 : filt 3 ls5 1 = [1] := by decide
theorem lp2 : filt 3 ls5 2 = [2] := by decide
theorem lp3 : filt 3 ls5 3 = [0] := by decide
theorem lp4 : filt 3 ls6 1 = [0, 1] := by decide
theorem lr1 : (upd ls9 0 2) 1 ≠ 0 := by decide
theorem cut_head (x : Int) : (cut [.int .u8 x] 0)[0]? = some (.int .u8 x) := by
  simp [cut, pad]
theorem pageOf_head (K : Nat → List Value) (P : List (List Value × Nat)) (fr i k : Nat) (h : 0 < (secOf K P (fr + i * 8 + 0)).length) : 0 < (pageOf K P fr i (k + 1)).length ∧ (pageOf K P fr i (k + 1))[0]? = (secOf K P (fr + i * 8 + 0))[0]? := by
  induction k with
  | zero => exact ⟨h, by simp [pageOf]⟩
  | succ k ih =>
    rw [pageOf]
    exact ⟨by rw [List.length_append]; omega, by rw [List.getElem?_append_left ih.1]; exact ih.2⟩
theorem OwnBytes.inside {w : World} {base : Nat} {v : Value} {cs : List Value} (h : OwnBytes w base v cs) (h0 : 0 < cs.length) : ∃ g cap cur, v = .slice (some ⟨g, 0, none⟩) cs.length cap ∧ base ≤ g ∧ w.rangeAt g 0 cs ∧ w.heap[g]? = some (.cells cur 5 (0, 0)) := by
  obtain ⟨h1, h2⟩ := h
  rcases h2 with ⟨rfl, h3⟩ | ⟨g, cap, cur, rfl, e2, e3, e4, e5, e6, e7⟩
  · omega
  · refine ⟨g, cap, cur, rfl, e2, fun j v hv => ?_, e3⟩
    rw [Nat.zero_add]
    refine (blk_cell e3 _).trans ?_
    have hj : j < cs.length := by
      rcases Nat.lt_or_ge j cs.length with hl | hg
      · exact hl
      · rw [List.getElem?_eq_none hg] at hv; simp at hv
    rw [← e7, List.getElem?_take_of_lt (by omega)] at hv
    simpa using hv
theorem lives_calls (w : World) : Calls Try.prog 8 #[] w fun e w' => e = .returned (.bool true) ∧ Below w.heap.size w w' := by
  have kc := fun (w : World) (x : Int) => (show (convert 40 40 (.slice (some ⟨w.heap.size, 0, none⟩) 1 1)).run Try.prog (w.alloc (.cells #[.int .u8 x] 5)) = .ok (.slice (some ⟨w.heap.size, 0, none⟩) 1 1) (w.alloc (.cells #[.int .u8 x] 5 (1, 2))) from Lib.run_convert_bytes_const (P := Try.prog) w 40 5 #[.int .u8 x] 1 1 Try.underlying40 Try.underlying5)
  go_enter Try.func8, Try.ntmps8
  go_wp2_with fail
  (with_reducible refine (diskNew_calls (N := w.heap.size) 30 (by decide) (by decide) 30 rfl w (Nat.le_refl _)).mono ?_)
  rintro e w1 ⟨d, kq, rfl, hd, hb⟩
  have HD1 := Aside0.mk hd
  have HB1 := Aside0.mk hb
  clear hd hb
  generalize hK : (fun _ : Nat => zeroSec) = K at HD1
  clear hK
  go_wp2_with fail
  (with_reducible refine (pagerNew_calls HD1.out 2 3 (by decide) (by decide) 2 3 rfl rfl).mono ?_)
  rintro e w2 ⟨p, rfl, hp, hb⟩
  have H2 := Aside0.mk (show IsPager w.heap.size w2 p d 2 3 30 ls0 K [] from hp)
  have HM2 := Aside0.mk (Moves.of_below (M := Mp) (HB1.out.trans (hb.mono HB1.out.size)) (Nat.le_refl _))
  have HL2 := Aside0.mk (show ([] : List (List Value × Nat)).length ≤ 90000 by decide)
  have HLE2 := Aside0.mk (show ([] : List (List Value × Nat)).length = 0 from rfl)
  clear hp hb
  go_wp2_with fail
  (with_reducible refine (Write_lit H2.out HL2.out 97 97 (by decide) rfl 0 (by decide) rfl (fun j h => by omega)).mono ?_)
  rintro e w3 ⟨P3, rfl, hp, hm, hl, hs⟩
  have H3 := Aside0.mk hp
  have HM3 := Aside0.mk (HM2.out.trans hm)
  have HL3 := Aside0.mk (show P3.length ≤ 90000 by have := HLE2.out; omega)
  have HLE3 := Aside0.mk (show P3.length = 8 by have := HLE2.out; omega)
  have HS3 := Aside0.mk hs
  have HMV3 := Aside0.mk hm
  clear hp hm hl hs
  go_wp2_with fail
  (with_reducible refine (Write_lit H3.out HL3.out 98 98 (by decide) rfl 1 (by decide) lw2.1 lw2.2).mono ?_)
  rintro e w4 ⟨P4, rfl, hp, hm, hl, hs⟩
  have H4 := Aside0.mk hp
  have HM4 := Aside0.mk (HM3.out.trans hm)
  have HL4 := Aside0.mk (show P4.length ≤ 90000 by have := HLE3.out; omega)
  have HLE4 := Aside0.mk (show P4.length = 16 by have := HLE3.out; omega)
  have HS4 := Aside0.mk hs
  have HMV4 := Aside0.mk hm
  clear hp hm hl hs
  go_wp2_with fail
  (with_reducible refine (Settle_calls H4.out).mono ?_)
  rintro e w5 ⟨rfl, hp, hm⟩
  have H5 := Aside0.mk hp
  have HM5 := Aside0.mk (HM4.out.trans hm)
  have HMV5 := Aside0.mk hm
  clear hp hm
  have HL5 := HL4
  have HLE5 := HLE4
  go_wp2_with fail
  (with_reducible refine (Release_calls H5.out 0).mono ?_)
  rintro e w6 ⟨e6, rfl, hp, hm⟩
  have H6 := Aside0.mk hp
  have HM6 := Aside0.mk (HM5.out.trans hm)
  have HMV6 := Aside0.mk hm
  clear hp hm
  have HL6 := HL5
  have HLE6 := HLE5
  go_wp2_with fail
  (with_reducible refine (Write_lit H6.out HL6.out 99 99 (by decide) rfl 2 (by decide) lw5.1 lw5.2).mono ?_)
  rintro e w7 ⟨P7, rfl, hp, hm, hl, hs⟩
  have H7 := Aside0.mk hp
  have HM7 := Aside0.mk (HM6.out.trans hm)
  have HL7 := Aside0.mk (show P7.length ≤ 90000 by have := HLE6.out; omega)
  have HLE7 := Aside0.mk (show P7.length = 24 by have := HLE6.out; omega)
  have HS7 := Aside0.mk hs
  have HMV7 := Aside0.mk hm
  clear hp hm hl hs
  go_wp2_with fail
  (with_reducible refine (Write_lit_full H7.out HL7.out 100 100 (by decide) rfl lwf).mono ?_)
  rintro e w8 ⟨rfl, hp, hm⟩
  have H8 := Aside0.mk hp
  have HM8 := Aside0.mk (HM7.out.trans hm)
  have HMV8 := Aside0.mk hm
  clear hp hm
  have HL8 := HL7
  have HLE8 := HLE7
  go_wp2_with fail
  (with_reducible refine (Pages_calls H8.out).mono ?_)
  rintro e w9 ⟨x, y, z, rfl, o1, o2, o3, hb⟩
  have H9 := Aside0.mk (H8.out.grown hb)
  have hm := Moves.of_below (M := Mp) (N := w.heap.size) hb H8.out.lt
  have HM9 := Aside0.mk (HM8.out.trans hm)
  have HMV9 := Aside0.mk hm
  rw [lp1] at o1
  have HOx9 := Aside0.mk o1
  rw [lp2] at o2
  have HOy9 := Aside0.mk o2
  rw [lp3] at o3
  have HOz9 := Aside0.mk o3
  clear hb hm o1 o2 o3
  have HL9 := HL8
  have HLE9 := HLE8
  go_wp2_with fail
  (with_reducible refine (Undo_calls H9.out).mono ?_)
  rintro e w10 ⟨rfl, hp, hm⟩
  have H10 := Aside0.mk hp
  have HM10 := Aside0.mk (HM9.out.trans hm)
  have HMV10 := Aside0.mk hm
  clear hp hm
  have HL10 := HL9
  have HLE10 := HLE9
  have HOx10 := Aside0.mk (HOx9.out.moves HMV10.out rfl)
  have HOy10 := Aside0.mk (HOy9.out.moves HMV10.out rfl)
  have HOz10 := Aside0.mk (HOz9.out.moves HMV10.out rfl)
  go_wp2_with fail
  (with_reducible refine (Pages_calls H10.out).mono ?_)
  rintro e w11 ⟨s, s2, s3, rfl, o1, o2, o3, hb⟩
  have H11 := Aside0.mk (H10.out.grown hb)
  have hm := Moves.of_below (M := Mp) (N := w.heap.size) hb H10.out.lt
  have HM11 := Aside0.mk (HM10.out.trans hm)
  have HMV11 := Aside0.mk hm
  rw [lp4] at o1
  have HOs11 := Aside0.mk o1
  clear hb hm o1 o2 o3
  have HL11 := HL10
  have HLE11 := HLE10
  have HOx11 := Aside0.mk (HOx10.out.moves HMV11.out rfl)
  have HOy11 := Aside0.mk (HOy10.out.moves HMV11.out rfl)
  have HOz11 := Aside0.mk (HOz10.out.moves HMV11.out rfl)
  go_wp2_with fail
  (with_reducible refine (Write_lit H11.out HL11.out 101 101 (by decide) rfl 2 (by decide) lw7.1 lw7.2).mono ?_)
  rintro e w12 ⟨P12, rfl, hp, hm, hl, hs⟩
  have H12 := Aside0.mk hp
  have HM12 := Aside0.mk (HM11.out.trans hm)
  have HL12 := Aside0.mk (show P12.length ≤ 90000 by have := HLE11.out; omega)
  have HLE12 := Aside0.mk (show P12.length = 32 by have := HLE11.out; omega)
  have HS12 := Aside0.mk hs
  have HMV12 := Aside0.mk hm
  clear hp hm hl hs
  have HOx12 := Aside0.mk (HOx11.out.moves HMV12.out rfl)
  have HOy12 := Aside0.mk (HOy11.out.moves HMV12.out rfl)
  have HOz12 := Aside0.mk (HOz11.out.moves HMV12.out rfl)
  have HOs12 := Aside0.mk (HOs11.out.moves HMV12.out rfl)
  go_wp2_with fail
  (with_reducible refine (Release_calls H12.out 0).mono ?_)
  rintro e w13 ⟨e13, rfl, hp, hm⟩
  have H13 := Aside0.mk hp
  have HM13 := Aside0.mk (HM12.out.trans hm)
  have HMV13 := Aside0.mk hm
  clear hp hm
  have HL13 := HL12
  have HLE13 := HLE12
  have HOx13 := Aside0.mk (HOx12.out.moves HMV13.out rfl)
  have HOy13 := Aside0.mk (HOy12.out.moves HMV13.out rfl)
  have HOz13 := Aside0.mk (HOz12.out.moves HMV13.out rfl)
  have HOs13 := Aside0.mk (HOs12.out.moves HMV13.out rfl)
  go_wp2_with fail
  (with_reducible refine (Settle_calls H13.out).mono ?_)
  rintro e w14 ⟨rfl, hp, hm⟩
  have H14 := Aside0.mk hp
  have HM14 := Aside0.mk (HM13.out.trans hm)
  have HMV14 := Aside0.mk hm
  clear hp hm
  have HL14 := HL13
  have HLE14 := HLE13
  have HOx14 := Aside0.mk (HOx13.out.moves HMV14.out rfl)
  have HOy14 := Aside0.mk (HOy13.out.moves HMV14.out rfl)
  have HOz14 := Aside0.mk (HOz13.out.moves HMV14.out rfl)
  have HOs14 := Aside0.mk (HOs13.out.moves HMV14.out rfl)
  go_wp2_with fail
  (with_reducible refine (Write_lit H14.out HL14.out 102 102 (by decide) rfl 0 (by decide) lw10.1 lw10.2).mono ?_)
  rintro e w15 ⟨P15, rfl, hp, hm, hl, hs⟩
  have H15 := Aside0.mk hp
  have HM15 := Aside0.mk (HM14.out.trans hm)
  have HL15 := Aside0.mk (show P15.length ≤ 90000 by have := HLE14.out; omega)
  have HLE15 := Aside0.mk (show P15.length = 40 by have := HLE14.out; omega)
  have HS15 := Aside0.mk hs
  have HMV15 := Aside0.mk hm
  clear hp hm hl hs
  have HOx15 := Aside0.mk (HOx14.out.moves HMV15.out rfl)
  have HOy15 := Aside0.mk (HOy14.out.moves HMV15.out rfl)
  have HOz15 := Aside0.mk (HOz14.out.moves HMV15.out rfl)
  have HOs15 := Aside0.mk (HOs14.out.moves HMV15.out rfl)
  have HSEC := Aside0.mk (show secOf K P15 (2 + 1 * 8 + 0) = cut [.int .u8 98] 0 by rw [HS15.out 1, if_neg (by decide), HS12.out 1, if_neg (by decide), HS7.out 1, if_neg (by decide), HS4.out 1, if_pos rfl])
  go_wp2_with fail
  (with_reducible refine (Read_calls H15.out (Nat.le_trans HL15.out (by decide)) 1).mono ?_)
  rintro e w16 (⟨_, _, _, v16, rfl, hown, hb⟩ | ⟨g, _⟩)
  rotate_left
  · exact absurd ⟨by decide, by decide, lr1⟩ g
  have hpl : (pageOf K P15 2 (1 : Int).toNat 8).length = 1024 := by
    obtain ⟨a, q, kq', sq, c, hh⟩ := H15.out
    exact pageOf_len hh.disk 2 1 8 (by decide)
  obtain ⟨g, cap, cur, rfl, hg, hr, hcur⟩ := hown.inside (by rw [hpl]; decide)
  rw [hpl]
  have hc16 : w16.cell? ⟨g, 0, none⟩ = some (.int .u8 98) := by
    refine hr 0 _ ?_
    have h1 := (pageOf_head K P15 2 1 7 (by rw [HSEC.out]; simp [cut, pad])).2
    rw [HSEC.out, cut_head] at h1
    exact h1
  have hm := Moves.of_below (M := Mp) (N := w.heap.size) hb H15.out.lt
  have HM16 := Aside0.mk (HM15.out.trans hm)
  have HMV16 := Aside0.mk hm
  have HOx16 := Aside0.mk (HOx15.out.moves HMV16.out rfl)
  have HOy16 := Aside0.mk (HOy15.out.moves HMV16.out rfl)
  have HOz16 := Aside0.mk (HOz15.out.moves HMV16.out rfl)
  have HOs16 := Aside0.mk (HOs15.out.moves HMV16.out rfl)
  obtain ⟨Ax, cx, hx⟩ := HOx16.out.inside
  obtain ⟨Ay, cy, hy⟩ := HOy16.out.inside
  obtain ⟨Az, cz, hz⟩ := HOz16.out.inside
  obtain ⟨As, c_s, hs⟩ := HOs16.out.inside
  have HX := Aside0.mk hx
  have HY := Aside0.mk hy
  have HZ := Aside0.mk hz
  have HSS := Aside0.mk hs
  have HBB := Aside0.mk HM16.out.below
  have HGG := Aside0.mk (blk_lt hcur)
  clear hm hb hx hy hz hs hown hpl hg hr hcur
  clear HMV16 HMV15 HMV14 HMV13 HMV12 HMV11 HMV10 HMV9 HM2 HM3 HM4 HM5 HM6 HM7 HM8 HM9 HM10 HM11 HM12 HM13 HM14 HM15 HM16
  go_wp2_with fail
  (with_reducible refine (same_true (HX.out.below (below_alloc (Below.refl _ _) _)) (lit_one w16 1 1 rfl) (by decide) rfl).mono ?_)
  rintro e w17 ⟨rfl, hd⟩
  have hb : Below w16.heap.size w16 w17 := (below_alloc (Below.refl _ _) (.cells #[.int .i64 1] 3)).trans (hd.below.mono (by simp))
  have HBB := Aside0.mk (HBB.out.trans (hb.mono HBB.out.size))
  have hc17 : w17.cell? ⟨g, 0, none⟩ = some (.int .u8 98) := (hb.cell (p := ⟨g, 0, none⟩) (World.block_lt_of_cell? _ _ hc16)).trans hc16
  clear hc16 hd
  have HY := Aside0.mk (HY.out.below hb)
  have HZ := Aside0.mk (HZ.out.below hb)
  have HSS := Aside0.mk (HSS.out.below hb)
  clear hb
  go_wp2_with fail
  (with_reducible refine (same_true (HY.out.below (below_alloc (Below.refl _ _) _)) (lit_one w17 2 2 rfl) (by decide) rfl).mono ?_)
  rintro e w18 ⟨rfl, hd⟩
  have hb : Below w17.heap.size w17 w18 := (below_alloc (Below.refl _ _) (.cells #[.int .i64 2] 3)).trans (hd.below.mono (by simp))
  have HBB := Aside0.mk (HBB.out.trans (hb.mono HBB.out.size))
  have hc18 : w18.cell? ⟨g, 0, none⟩ = some (.int .u8 98) := (hb.cell (p := ⟨g, 0, none⟩) (World.block_lt_of_cell? _ _ hc17)).trans hc17
  clear hc17 hd
  have HZ := Aside0.mk (HZ.out.below hb)
  have HSS := Aside0.mk (HSS.out.below hb)
  clear hb
  go_wp2_with fail
  (with_reducible refine (same_true (HZ.out.below (below_alloc (Below.refl _ _) _)) (lit_one w18 0 0 rfl) (by decide) rfl).mono ?_)
  rintro e w19 ⟨rfl, hd⟩
  have hb : Below w18.heap.size w18 w19 := (below_alloc (Below.refl _ _) (.cells #[.int .i64 0] 3)).trans (hd.below.mono (by simp))
  have HBB := Aside0.mk (HBB.out.trans (hb.mono HBB.out.size))
  have hc19 : w19.cell? ⟨g, 0, none⟩ = some (.int .u8 98) := (hb.cell (p := ⟨g, 0, none⟩) (World.block_lt_of_cell? _ _ hc18)).trans hc18
  clear hc18 hd
  have HSS := Aside0.mk (HSS.out.below hb)
  clear hb
  go_wp2_with fail
  (with_reducible refine (same_true (HSS.out.below (below_alloc (Below.refl _ _) _)) (lit_two w19) (by decide) rfl).mono ?_)
  rintro e w20 ⟨rfl, hd⟩
  have hb : Below w19.heap.size w19 w20 := (below_alloc (Below.refl _ _) (.cells #[.int .i64 0, .int .i64 1] 3)).trans (hd.below.mono (by simp))
  have HBB := Aside0.mk (HBB.out.trans (hb.mono HBB.out.size))
  have hc20 : w20.cell? ⟨g, 0, none⟩ = some (.int .u8 98) := (hb.cell (p := ⟨g, 0, none⟩) (World.block_lt_of_cell? _ _ hc19)).trans hc19
  clear hc19 hd
  clear hb
  go_wp2_with fail
  go_ret
  exact ⟨rfl, HBB.out⟩
end Go.Proofs.Ytdjpohmgljhhcaa.A
