/- A crash. -/
import Derived.Test.YtdjpohmgljhhcaaX14
namespace Go.Proofs.Ytdjpohmgljhhcaa.A
open Go.RowKit Go.Proofs.YtdjpohmgljhhcaaW.PrintWords Go.Proofs.YtdjpohmgljhhcaaW.PrintLast Go.Proofs.YtdjpohmgljhhcaaW.PrintMore
set_option linter.unusedVariables false
set_option linter.unusedSimpArgs false
set_option maxHeartbeats 4000000
set_option maxRecDepth 100000
/-- A slice of ints, to be read; its block is below a bound. -/
structure IntsIn (w : World) (N : Nat) (A : Option Addr) (len : Nat) : Prop where
  cell : ∀ j, j < len → ∃ g o, A = some ⟨g, o, none⟩ ∧ g < N ∧ ∃ a : Int, w.cell? ⟨g, o + j, none⟩ = some (.int .i64 a)
theorem IntsIn.low {w w' : World} {N N' : Nat} {A : Option Addr} {len : Nat} (h : IntsIn w N A len) (hb : Below N' w w') (hN : N ≤ N') : IntsIn w' N A len where
  cell := by
    intro j hj
    obtain ⟨g, o, e, hg, a, hc⟩ := h.cell j hj
    exact ⟨g, o, e, hg, a, (hb.cell (p := ⟨g, o + j, none⟩) (by simp only; omega)).trans hc⟩
theorem IntsIn.mono {w : World} {N N' : Nat} {A : Option Addr} {len : Nat} (h : IntsIn w N A len) (hN : N ≤ N') : IntsIn w N' A len where
  cell := by
    intro j hj
    obtain ⟨g, o, e, hg, a, hc⟩ := h.cell j hj
    exact ⟨g, o, e, by omega, a, hc⟩
/-- Some int is told; the world stands. -/
def SomeInt (w : World) (e : Ending) (w' : World) : Prop := ∃ z : Int, e = .returned (.int .i64 z) ∧ w = w'
/-- Some bool is told; the world stands. -/
def SomeBool (w : World) (e : Ending) (w' : World) : Prop := ∃ b : Bool, e = .returned (.bool b) ∧ w = w'
theorem Index_calls (w : World) (N : Nat) (A : Option Addr) (len cap : Nat) (hl : len < 9223372036854775808) (h : IntsIn w N A len) (v : Int) : Calls Try.prog 51 #[.slice A len cap, .int .i64 v] w (SomeInt w) := by
  have H := Aside0.mk h
  have HL := Aside0.mk hl
  clear h
  go_enter Try.func51, Try.ntmps51
  go_wp2
  go_loopw [8] (fun i wr => ∃ j : Nat, i = .int .i64 j ∧ j ≤ len ∧ wr = w) (fun i _ => len - (intOf i).toNat)
  case atStart => exact ⟨0, rfl, by omega, rfl⟩
  case round =>
    obtain ⟨j, rfl, hj, rfl⟩ := hrel
    by_cases g1 : j < len
    · obtain ⟨g, o, rfl, _, a, hc⟩ := H.out.cell j g1
      have i0 : (0 : Int) ≤ (j : Int) := by omega
      have i1 : (j : Int) < (len : Int) := by omega
      by_cases g2 : v = a
      · subst g2
        go_wp2
        go_ret
        exact ⟨_, rfl, rfl⟩
      · go_wp2
        exact ⟨⟨j + 1, by go_num, by omega, trivial⟩, by simp [intOf]; omega⟩
    · go_wp2
      go_ret
      exact ⟨_, rfl, rfl⟩
theorem Contains_calls (w : World) (N : Nat) (A : Option Addr) (len cap : Nat) (hl : len < 9223372036854775808) (h : IntsIn w N A len) (v : Int) : Calls Try.prog 36 #[.slice A len cap, .int .i64 v] w (SomeBool w) := by
  have H := Aside0.mk h
  have HL := Aside0.mk hl
  clear h hl
  go_enter Try.func36, Try.ntmps36
  go_wp2_with (first | (go_at_call 51; (with_reducible refine (Index_calls w N A len cap HL.out H.out v).mono ?_); rintro e w1 ⟨z, rfl, rfl⟩))
  go_ret
  exact ⟨_, rfl, rfl⟩
theorem crashPick_calls (w : World) (N : Nat) (A : Option Addr) (len cap : Nat) (hl : len < 9223372036854775808) (h : IntsIn w N A len) (v : Int) (b : Nat) (hb : w.cell? ⟨b, 0, none⟩ = some (.slice A len cap)) : Calls Try.prog 44 #[.int .i64 v, .pointer (some ⟨b, 0, none⟩)] w (SomeBool w) := by
  have H := Aside0.mk h
  have HL := Aside0.mk hl
  clear h hl
  go_enter Try.func44, Try.ntmps44
  go_wp2_with (first | (go_at_call 36; (with_reducible refine (Contains_calls w N A len cap HL.out H.out v).mono ?_); rintro e w1 ⟨z, rfl, rfl⟩))
  go_ret
  exact ⟨_, rfl, rfl⟩
theorem setCells_from {w : World} {b o : Nat} {A vs : List Value} {t : TypeId} (h : BlkIs w b A t) (hl : o + vs.length ≤ A.length) (h1 : ∀ v ∈ vs, v.oneCell' = true) : ∃ W, (storeCells ⟨b, o, none⟩ vs).run Try.prog w = .ok () W ∧ BlkIs W b (A.take o ++ (vs ++ A.drop (o + vs.length))) t ∧ Own b w W := by
  refine ⟨w.setCells b o vs, ?_, setCells_at b vs w o A t h hl, Own.setCells _ _ _ _⟩
  have hx : ∀ j, j < vs.length → (w.cell? ⟨b, o + j, none⟩).isSome = true ∧ w.frozen? ⟨b, o + j, none⟩ = false := by
    intro j hj
    constructor
    · rw [blk_cell h]
      simp
      omega
    · unfold BlkIs at h
      simp [World.frozen?, h]
  have := run_storeCells_cells (P := Try.prog) b o vs 0 w (fun j hj => by simpa using (hx j hj).1) (fun j hj => by simpa using (hx j hj).2) h1
  simpa using this
/-- A sector of a disk stored. -/
theorem DiskAt.keepOne {N : Nat} {w : World} {d kq n : Nat} {pv : Value} {K : Nat → List Value} {P : List (List Value × Nat)} (h : DiskAt N w d kq n pv K P) (a : Nat) (ha : a < n) (vs : List Value) (hv : Sec vs) :
    ∃ W, (storeCells ⟨kq, a * 128, none⟩ vs).run Try.prog w = .ok () W ∧ DiskAt N W d kq n pv (fun i => if i = a then vs else K i) P ∧ Moves Md N w W ∧ Own kq w W := by
  obtain ⟨kc, k1, k2, k3⟩ := h.kept
  have hb : BlkIs w kq kc.toList 85 := by unfold BlkIs; simpa using k1
  obtain ⟨W, h1, h2, h3⟩ := setCells_from (o := a * 128) (vs := vs) hb (by simp [k2, hv.len]; omega) hv.bytes.one
  refine ⟨W, h1, ?_, (Moves.refl Md N w).upd k1 rfl h.bk h3, h3⟩
  exact {
    self := (h3.block _ (blk_lt h.self) (blk_ne h.self k1 (by decide))).trans h.self
    kept := by
      refine ⟨_, h2, ?_, fun i j v hi hij => ?_⟩
      · simp [k2, hv.len]; omega
      · have hK : ∀ i, i < n → ((fun i => if i = a then vs else K i) i).length = 128 := by
          intro i hi
          show (if i = a then vs else K i).length = 128
          split
          · exact hv.len
          · exact (h.sec i hi).len
        have hj : j < 128 := by
          have := (List.getElem?_eq_some_iff.1 hij).1
          rwa [hK i hi] at this
        have hij : (if i = a then vs else K i)[j]? = some v := hij
        simp only [List.getElem?_toArray]
        have htl : (kc.toList.take (a * 128)).length = a * 128 := by simp [k2]; omega
        by_cases e : i = a
        · subst e
          rw [if_pos rfl] at hij
          rw [List.getElem?_append_right (by omega), htl, show i * 128 + j - i * 128 = j by omega, List.getElem?_append_left (by rw [hv.len]; exact hj)]
          exact hij
        · rw [if_neg e] at hij
          have h5 := k3 i j v hi hij
          have h6 : kc.toList[i * 128 + j]? = some v := by simpa using h5
          by_cases hlt : i < a
          · rw [List.getElem?_append_left (by omega), List.getElem?_take_of_lt (by omega)]
            exact h6
          · rw [List.getElem?_append_right (by omega), htl, List.getElem?_append_right (by rw [hv.len]; omega), List.getElem?_drop, hv.len, show a * 128 + 128 + (i * 128 + j - a * 128 - 128) = i * 128 + j by omega]
            exact h6
    sec := by
      intro i hi
      show Sec (if i = a then vs else K i)
      split
      · exact hv
      · exact h.sec i hi
    pend := by
      obtain ⟨o1, o2⟩ := h.pend
      refine ⟨o1, ?_⟩
      rcases o2 with o2 | ⟨g, cap, cur, e1, e2, e3, e4⟩
      · exact Or.inl o2
      · exact Or.inr ⟨g, cap, cur, e1, e2, (h3.block _ (blk_lt e3) (blk_ne e3 k1 (by decide))).trans e3, e4⟩
    psec := h.psec
    bd := h.bd
    bk := h.bk
    one := h.one
    most := h.most }
theorem DiskAt.grown {N : Nat} {w w' : World} {d kq n : Nat} {pv : Value} {K : Nat → List Value} {P : List (List Value × Nat)} (h : DiskAt N w d kq n pv K P) (hb : Below w.heap.size w w') : DiskAt N w' d kq n pv K P := by
  obtain ⟨kc, k1, k2, k3⟩ := h.kept
  exact ⟨blk_below h.self hb, ⟨kc, blk_below k1 hb, k2, k3⟩, h.sec, own_below h.pend hb, h.psec, h.bd, h.bk, h.one, h.most⟩
/-- What keep leaves: a disk of which nothing is pending. -/
def Kept (N d kq n : Nat) (w : World) (e : Ending) (w' : World) : Prop := ∃ K, e = .returned (.tuple #[]) ∧ IsDisk N w' d kq n K [] ∧ Moves Md N w w'
theorem DiskAt.shut {N : Nat} {w : World} {d kq n : Nat} {pv : Value} {K : Nat → List Value} {P : List (List Value × Nat)} (h : DiskAt N w d kq n pv K P) : IsDisk N (w.setCell ⟨d, 1, none⟩ (.slice none 0 0)) d kq n K [] ∧ Moves Md N w (w.setCell ⟨d, 1, none⟩ (.slice none 0 0)) := by
  obtain ⟨kc, k1, k2, k3⟩ := h.kept
  have hO := Own.setCell w d 1 (.slice none 0 0)
  refine ⟨⟨.slice none 0 0, ?_⟩, (Moves.refl Md N w).upd h.self rfl h.bd hO⟩
  exact {
    self := by
      have := blk_setCell_self (o := 1) h.self (.slice none 0 0)
      simpa using this
    kept := ⟨kc, (hO.block _ (blk_lt k1) (blk_ne k1 h.self (by decide))).trans k1, k2, k3⟩
    sec := h.sec
    pend := World.ownsRow_nil _ _ _ _
    psec := fun x hx => by simp at hx
    bd := h.bd
    bk := h.bk
    one := h.one
    most := h.most }
theorem keep_calls {N : Nat} {w : World} {d kq n : Nat} {K : Nat → List Value} {P : List (List Value × Nat)} (h : IsDisk N w d kq n K P) (hP : P.length ≤ 100000) (N2 : Nat) (A : Option Addr) (len cap : Nat) (hl : len < 9223372036854775808) (hA : IntsIn w N A len) (b : Nat) (hb : w.heap[b]? = some (.cells #[.slice A len cap] 31 (0, 0))) :
    Calls Try.prog 43 #[.pointer (some ⟨d, 0, none⟩), .func (.func 44) #[] #[.pointer (some ⟨b, 0, none⟩)]] w (Kept N d kq n w) := by
  have HA := Aside0.mk hA
  have HL := Aside0.mk hl
  have HB := Aside0.mk hb
  obtain ⟨pv, hd⟩ := h
  have HD := Aside0.mk hd
  have hc1 : w.cell? ⟨d, 1, none⟩ = some pv := (blk_cell hd.self 1).trans rfl
  have hfr : w.frozen? ⟨d, 1, none⟩ = false := by simp [World.frozen?, hd.self]
  have hsh := hd.shut
  have HSH := Aside0.mk hsh
  rcases pend_ranges hd.pend (fun x hx => (hd.psec x hx).1) with ⟨rfl, rfl⟩ | ⟨g, capp, rfl, hg, hr⟩
  · clear hA hl hb hd hsh
    go_enter Try.func43, Try.ntmps43
    go_wp2
    go_loopw [11] (fun v wr => v = .int .i64 0 ∧ wr = w) (fun _ _ => 0)
    case atStart => exact ⟨rfl, rfl⟩
    case round =>
      obtain ⟨rfl, rfl⟩ := hrel
      go_wp2
      go_end0
      exact ⟨_, rfl, HSH.out.1, HSH.out.2⟩
  · have hm : P.length ≤ 100000 := hP
    generalize hlen : P.length = m at *
    have HLN := Aside0.mk hlen
    have hps : ∀ x ∈ P, Sec x.1 := fun x hx => (hd.psec x hx).1
    have HPS := Aside0.mk hps
    have HPA := Aside0.mk hd.psec
    have HBD := Aside0.mk hd.lt
    clear hA hl hb hd hsh hr hg hlen hps HSH
    go_enter Try.func43, Try.ntmps43
    go_wp2
    go_loopw [11] (fun v wr => ∃ (j : Nat) (K' : Nat → List Value), v = .int .i64 (j : Int) ∧ j ≤ m ∧ Aside0 (DiskAt N wr d kq n (.slice (some ⟨g, 0, none⟩) m capp) K' P) ∧ Aside0 (Moves Md N w wr)) (fun v _ => m - (intOf v).toNat)
    case atStart => exact ⟨0, K, rfl, by omega, HD, ⟨Moves.refl _ _ _⟩⟩
    case round =>
      obtain ⟨j, K', rfl, hj, HD1, HM1⟩ := hrel
      have hbw := (HM1.out.old _ _ _ _ HB.out rfl).trans HB.out
      by_cases g1 : j < m
      · have i0 : (0 : Int) ≤ (j : Int) := by omega
        have i1 : (j : Int) < (m : Int) := by omega
        have hrg : wr.rangeAt g (j * 129) (entOf P j) := by
          rcases pend_ranges HD1.out.pend HPS.out with ⟨e, _⟩ | ⟨g', cap', e, _, hr⟩
          · simp at e
          · simp only [Value.slice.injEq, Option.some.injEq, Addr.mk.injEq, and_true] at e
            obtain ⟨rfl, _, _⟩ := e
            exact hr j (by rw [HLN.out]; exact g1)
        obtain ⟨Z9, hZ9⟩ : ∃ Z9 : Array Value, (zeroSec ++ [Value.int .i64 0]).toArray = Z9 := ⟨_, rfl⟩
        have hz90 := zero90
        rw [hZ9] at hz90
        have hZ9s : Z9.size = 129 := by rw [← hZ9]; simp [zeroSec]
        have hel := entOf_len P HPS.out j
        obtain ⟨W8, hst8, hb8, ho8⟩ := store_blk (blk_alloc wr Z9 90) (vs := entOf P j) (by simp [hZ9s, hel]) (entOf_one P HPS.out j)
        have hb8w : Below wr.heap.size wr W8 := (below_alloc (Below.refl _ wr) _).trans (ho8.below (Nat.le_refl _) (by simp))
        obtain ⟨hrx, hcat⟩ := entOf_range HPS.out hb8
        have HRG := Aside0.mk hrg
        have HEL := Aside0.mk (show (Try.prog.info? 90).map (·.size) = some (entOf P j).length by rw [hel]; exact size90)
        have HD8 := Aside0.mk (HD1.out.grown hb8w)
        have HM8 := Aside0.mk (HM1.out.trans (Moves.of_below hb8w HD1.out.lt))
        have hbx := (hb8w.block _ (blk_lt hbw)).trans hbw
        have HBX := Aside0.mk (show W8.cell? ⟨b, 0, none⟩ = some (.slice A len cap) from (blk_cell hbx 0).trans rfl)
        have HI8 := Aside0.mk (HA.out.low HM8.out.below (Nat.le_refl _))
        have hPj := getP_sec P HPS.out j
        have hatn : (P.getD j (zeroSec, 0)).2 < n := by
          have : P.getD j (zeroSec, 0) ∈ P := by
            rw [List.getD_eq_getElem?_getD, List.getElem?_eq_getElem (by rw [HLN.out]; exact g1)]
            exact List.getElem_mem _
          exact (HPA.out _ this).2
        obtain ⟨vs, hvs⟩ : ∃ vs, (P.getD j (zeroSec, 0)).1 = vs := ⟨_, rfl⟩
        obtain ⟨at1, hat1⟩ : ∃ at1, (P.getD j (zeroSec, 0)).2 = at1 := ⟨_, rfl⟩
        rw [hvs] at hrx hPj
        rw [hat1] at hcat hatn
        have hc0 : W8.cell? ⟨d, 0, none⟩ = some (.slice (some ⟨kq, 0, none⟩) n n) := (blk_cell HD8.out.self 0).trans rfl
        have hdk : DiskAt N W8.drew d kq n (.slice (some ⟨g, 0, none⟩) m capp) K' P := HD8.out.grown (below_drew1 (Below.refl _ _))
        obtain ⟨W9, hst9, hd9, hm9, ho9⟩ := hdk.keepOne at1 hatn vs hPj
        obtain ⟨K9, hK9⟩ : ∃ K9, (fun i => if i = at1 then vs else K' i) = K9 := ⟨_, rfl⟩
        rw [hK9] at hd9
        have HD9 := Aside0.mk hd9
        have HM9 := Aside0.mk (HM8.out.trans ((Moves.of_below (below_drew1 (Below.refl _ W8)) HD8.out.lt).trans hm9))
        have hc09 : W9.cell? ⟨d, 0, none⟩ = some (.slice (some ⟨kq, 0, none⟩) n n) := (blk_cell hd9.self 0).trans rfl
        have hkq : kq ≠ wr.heap.size := by
          obtain ⟨kc, k1, _⟩ := HD1.out.kept
          have := blk_lt k1
          omega
        have hcat9 : W9.cell? ⟨wr.heap.size, 128, none⟩ = some (.int .i64 (at1 : Int)) := cell_own ho9 (show W8.drew.cell? ⟨wr.heap.size, 128, none⟩ = _ from hcat) (Ne.symm hkq)
        have hrx9 : W9.rangeAt wr.heap.size 0 vs := range_own ho9 (show W8.drew.rangeAt wr.heap.size 0 vs from hrx) (Ne.symm hkq)
        have hi85 := Aside0.mk (show (Try.prog.info? 85).map (·.size) = some vs.length by rw [hPj.len]; exact size85)
        have hvl : vs.length = 128 := hPj.len
        have ia : (at1 : Int) < (n : Int) := by omega
        have ib : (0 : Int) ≤ (at1 : Int) := by omega
        clear hZ9 hb8 ho8 hb8w hrg hbx hPj hvs hat1 hdk hd9 hm9 ho9 hK9 hbw
        go_wp2_with (first | (with_reducible refine wpList_load_mid rfl 90 (.tmp 14) rfl g (j * 129) rfl (entOf P j) _ HRG.out Try.underlying90 rfl HEL.out ?_) | (go_at_call 44; (with_reducible refine (crashPick_calls W8 N A len cap HL.out HI8.out j b HBX.out).mono ?_); rintro e w1 ⟨z, rfl, rfl⟩))
        ·
          refine wp_region_held_drew (S := fun w' => w'.cell? ⟨d, 0, none⟩ = some (.slice (some ⟨kq, 0, none⟩) n n) ∧ w'.cell? ⟨wr.heap.size, 128, none⟩ = some (.int .i64 (at1 : Int)) ∧ w'.rangeAt wr.heap.size 0 vs) (by kernel_rfl) ⟨hc0, hcat, hrx⟩ (fun hHeld => ?_)
          refine wpAnyH_take (i := 0) (oi := ?o1) (v := ?v1) ?ho1 (by kernel_rfl) (by kernel_rfl) (by kernel_rfl) ?hp1 ?hy1 (by assumption) ?rest1
          case ho1 => (simp only [List.getElem?_toArray, List.getElem?_cons_succ, List.getElem?_cons_zero]; with_reducible rfl)
          case hp1 => exact fun _ _ _ h => h
          case hy1 => (refine Or.inl ⟨by rfl, ?_⟩; intro w' hSw; (try dsimp only at hSw); obtain ⟨q1, q2, q3⟩ := hSw; go_simp; try (with_reducible rfl))
          try simp only [Act.put, List.setIfInBounds_toArray, List.set_cons_zero, List.set_cons_succ]
          refine wpAnyH_take (i := 1) (oi := ?o2) (v := ?v2) ?ho2 (by kernel_rfl) (by kernel_rfl) (by kernel_rfl) ?hp2 ?hy2 (by assumption) ?rest2
          case ho2 => (simp only [List.getElem?_toArray, List.getElem?_cons_succ, List.getElem?_cons_zero]; with_reducible rfl)
          case hp2 => exact fun _ _ _ h => h
          case hy2 => (refine Or.inl ⟨by rfl, ?_⟩; intro w' hSw; (try dsimp only at hSw); obtain ⟨q1, q2, q3⟩ := hSw; go_simp; try (with_reducible rfl))
          try simp only [Act.put, List.setIfInBounds_toArray, List.set_cons_zero, List.set_cons_succ]
          refine wpAnyH_take (i := 2) (oi := ?o3) (v := ?v3) ?ho3 (by kernel_rfl) (by kernel_rfl) (by kernel_rfl) ?hp3 ?hy3 (by assumption) ?rest3
          case ho3 => (simp only [List.getElem?_toArray, List.getElem?_cons_succ, List.getElem?_cons_zero]; with_reducible rfl)
          case hp3 => exact fun _ _ _ h => h
          case hy3 => (refine Or.inl ⟨by rfl, ?_⟩; intro w' hSw; (try dsimp only at hSw); obtain ⟨q1, q2, q3⟩ := hSw; go_simp; try (with_reducible rfl))
          try simp only [Act.put, List.setIfInBounds_toArray, List.set_cons_zero, List.set_cons_succ]
          refine wpAnyH_take (i := 3) (oi := ?o4) (v := ?v4) ?ho4 (by kernel_rfl) (by kernel_rfl) (by kernel_rfl) ?hp4 ?hy4 (by assumption) ?rest4
          case ho4 => (simp only [List.getElem?_toArray, List.getElem?_cons_succ, List.getElem?_cons_zero]; with_reducible rfl)
          case hp4 => exact fun _ _ _ h => h
          case hy4 => (refine Or.inl ⟨by rfl, ?_⟩; intro w' hSw; (try dsimp only at hSw); obtain ⟨q1, q2, q3⟩ := hSw; go_simp; try (with_reducible rfl))
          try simp only [Act.put, List.setIfInBounds_toArray, List.set_cons_zero, List.set_cons_succ]
          refine wpAnyH_take (i := 4) (oi := ?o5) (v := ?v5) ?ho5 (by kernel_rfl) (by kernel_rfl) (by kernel_rfl) ?hp5 ?hy5 (by assumption) ?rest5
          case ho5 => (simp only [List.getElem?_toArray, List.getElem?_cons_succ, List.getElem?_cons_zero]; with_reducible rfl)
          case hp5 => exact fun _ _ _ h => h
          case hy5 => (refine Or.inl ⟨by rfl, ?_⟩; intro w' hSw; (try dsimp only at hSw); obtain ⟨q1, q2, q3⟩ := hSw; go_simp; try (with_reducible rfl))
          try simp only [Act.put, List.setIfInBounds_toArray, List.set_cons_zero, List.set_cons_succ]
          refine wpAnyH_take (i := 5) (oi := ?o6) (v := ?v6) ?ho6 (by kernel_rfl) (by kernel_rfl) (by kernel_rfl) ?hp6 ?hy6 (by assumption) ?rest6
          case ho6 => (simp only [List.getElem?_toArray, List.getElem?_cons_succ, List.getElem?_cons_zero]; with_reducible rfl)
          case hp6 => exact fun _ _ _ h => h
          case hy6 => (refine Or.inl ⟨by rfl, ?_⟩; intro w' hSw; (try dsimp only at hSw); obtain ⟨q1, q2, q3⟩ := hSw; go_simp; try (with_reducible rfl))
          try simp only [Act.put, List.setIfInBounds_toArray, List.set_cons_zero, List.set_cons_succ]
          refine wpAnyH_take (i := 6) (oi := ?o7) (v := ?v7) ?ho7 (by kernel_rfl) (by kernel_rfl) (by kernel_rfl) ?hp7 ?hy7 (by assumption) ?rest7
          case ho7 => (simp only [List.getElem?_toArray, List.getElem?_cons_succ, List.getElem?_cons_zero]; with_reducible rfl)
          case hp7 => exact fun _ _ _ h => h
          case hy7 => (refine Or.inl ⟨by rfl, ?_⟩; intro w' hSw; (try dsimp only at hSw); obtain ⟨q1, q2, q3⟩ := hSw; go_simp; try (with_reducible rfl))
          try simp only [Act.put, List.setIfInBounds_toArray, List.set_cons_zero, List.set_cons_succ]
          refine wpAnyH_take (i := 7) (oi := ?o8) (v := .agg vs.toArray) ?ho8 (by kernel_rfl) (by kernel_rfl) (by kernel_rfl) ?hp8 ?hy8 (by assumption) ?rest8
          case ho8 => (simp only [List.getElem?_toArray, List.getElem?_cons_succ, List.getElem?_cons_zero]; with_reducible rfl)
          case hp8 => exact fun _ _ _ h => h
          case hy8 => exact yieldsIf_load_mid (by rfl) 85 (.tmp 25) rfl wr.heap.size 0 rfl vs _ (fun w' h => h.2.2) Try.underlying85 rfl hi85.out
          try simp only [Act.put, List.setIfInBounds_toArray, List.set_cons_zero, List.set_cons_succ]
          refine wpAnyH_take (i := 8) (oi := ?o9) (v := ?v9) ?ho9 (by kernel_rfl) (by kernel_rfl) (by kernel_rfl) ?hp9 ?hy9 (by assumption) ?rest9
          case ho9 => (simp only [List.getElem?_toArray, List.getElem?_cons_succ, List.getElem?_cons_zero]; with_reducible rfl)
          case hp9 => exact fun _ _ _ h => h
          case hy9 => (refine Or.inl ⟨by rfl, ?_⟩; intro w' hSw; (try dsimp only at hSw); obtain ⟨q1, q2, q3⟩ := hSw; go_simp; try (with_reducible rfl))
          try simp only [Act.put, List.setIfInBounds_toArray, List.set_cons_zero, List.set_cons_succ]
          refine wpAnyH_ready (rs := [9]) (by kernel_rfl) (by simp) ?_
          refine AllReadyH.cons (o := ?o10) ?ho10 ?st10 AllReadyH.nil
          case ho10 => (simp only [List.getElem?_toArray, List.getElem?_cons_succ, List.getElem?_cons_zero]; with_reducible rfl)
          case st10 =>
            intro K hK
            go_simp
            refine hK.out _ _ ⟨hc09, hcat9, hrx9⟩ (fun _ => ?_)
            clear hK K
            try simp only [Act.put, List.setIfInBounds_toArray, List.set_cons_zero, List.set_cons_succ]
            refine wpAnyH_done (by kernel_rfl) ?_ _
            go_wp2
            exact ⟨⟨j + 1, K9, by go_num, by omega, HD9, HM9⟩, by simp [intOf]; omega⟩
        · exact ⟨⟨j + 1, K', by go_num, by omega, HD8, HM8⟩, by simp [intOf]; omega⟩
      · have HSH := Aside0.mk HD1.out.shut
        have hcd : wr.cell? ⟨d, 1, none⟩ = some (.slice (some ⟨g, 0, none⟩) m capp) := (blk_cell HD1.out.self 1).trans rfl
        have hfd : wr.frozen? ⟨d, 1, none⟩ = false := by simp [World.frozen?, HD1.out.self]
        go_wp2
        go_end0
        exact ⟨_, rfl, HSH.out.1, HM1.out.trans HSH.out.2⟩
theorem IsDisk.again {N : Nat} {w : World} {d kq n : Nat} {K : Nat → List Value} {P : List (List Value × Nat)} (h : IsDisk N w d kq n K P) : IsDisk N ((w.setCell ⟨d, 2, none⟩ (.int .i64 (-1))).setCell ⟨d, 3, none⟩ (.bool false)) d kq n K P ∧ Moves Md N w ((w.setCell ⟨d, 2, none⟩ (.int .i64 (-1))).setCell ⟨d, 3, none⟩ (.bool false)) := by
  obtain ⟨pv, h⟩ := h
  obtain ⟨kc, k1, k2, k3⟩ := h.kept
  have hO : Own d w ((w.setCell ⟨d, 2, none⟩ (.int .i64 (-1))).setCell ⟨d, 3, none⟩ (.bool false)) := (Own.setCell w d 2 _).trans (Own.setCell _ d 3 _)
  refine ⟨⟨pv, ?_⟩, (Moves.refl Md N w).upd h.self rfl h.bd hO⟩
  exact {
    self := by
      have h1 := blk_setCell_self (o := 2) h.self (.int .i64 (-1))
      have h2 := blk_setCell_self (o := 3) h1 (.bool false)
      simpa using h2
    kept := ⟨kc, (hO.block _ (blk_lt k1) (blk_ne k1 h.self (by decide))).trans k1, k2, k3⟩
    sec := h.sec
    pend := by
      obtain ⟨o1, o2⟩ := h.pend
      refine ⟨o1, ?_⟩
      rcases o2 with o2 | ⟨g, cap, cur, e1, e2, e3, e4⟩
      · exact Or.inl o2
      · exact Or.inr ⟨g, cap, cur, e1, e2, (hO.block _ (blk_lt e3) (blk_ne e3 h.self (by decide))).trans e3, e4⟩
    psec := h.psec
    bd := h.bd
    bk := h.bk
    one := h.one
    most := h.most }
/-- What a crash leaves. -/
def Crashed (N d kq n : Nat) (w : World) (e : Ending) (w' : World) : Prop := ∃ K, e = .returned (.int .i64 0) ∧ IsDisk N w' d kq n K [] ∧ Moves Md N w w'
theorem Crash_calls {N : Nat} {w : World} {d kq n : Nat} {K : Nat → List Value} {P : List (List Value × Nat)} (h : IsDisk N w d kq n K P) (hP : P.length ≤ 100000) (A : Option Addr) (len cap : Nat) (hl : len < 9223372036854775808) (hA : IntsIn w N A len) :
    Calls Try.prog 26 #[.pointer (some ⟨d, 0, none⟩), .slice A len cap] w (Crashed N d kq n w) := by
  have hN : N ≤ w.heap.size := by obtain ⟨pv, hd⟩ := h; exact hd.lt
  have hb0 : Below w.heap.size w (w.alloc (.cells #[.slice A len cap] 31)) := below_alloc (Below.refl _ w) _
  have H := Aside0.mk (h.grown hb0)
  have HA := Aside0.mk (hA.low (hb0.mono hN) (Nat.le_refl _))
  have HL := Aside0.mk hl
  have HX := Aside0.mk (blk_new w (.cells #[.slice A len cap] 31))
  have HB0 := Aside0.mk (Moves.of_below (M := Md) hb0 hN)
  clear h hA hl hb0
  go_enter Try.func26, Try.ntmps26
  go_wp2_with (first | (go_at_call 42; (with_reducible refine (diskMade_calls H.out).mono ?_); rintro e w1 ⟨rfl, hw1⟩; obtain rfl := hw1.symm) | (go_at_call 43; (with_reducible refine (keep_calls H.out hP N A len cap HL.out HA.out w.heap.size HX.out).mono ?_); rintro e w2 ⟨K2, rfl, hd2, hm2⟩; have HD2 := Aside0.mk hd2; have HM2 := Aside0.mk hm2; obtain ⟨pv2, hdd⟩ := hd2; have hc2 : w2.cell? ⟨d, 2, none⟩ = some (.int .i64 (-1)) := (blk_cell hdd.self 2).trans rfl; have hc3 : w2.cell? ⟨d, 3, none⟩ = some (.bool false) := (blk_cell hdd.self 3).trans rfl; have hf2 : ∀ o, w2.frozen? ⟨d, o, none⟩ = false := (fun o => by simp [World.frozen?, hdd.self]); clear hdd hm2))
  go_ret
  exact ⟨_, rfl, HD2.out.again.1, (HB0.out.trans HM2.out).trans HD2.out.again.2⟩
end Go.Proofs.Ytdjpohmgljhhcaa.A
