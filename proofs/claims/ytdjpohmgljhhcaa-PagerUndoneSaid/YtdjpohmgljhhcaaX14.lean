/- A sector read. -/
import Derived.Test.YtdjpohmgljhhcaaX13
namespace Go.Proofs.Ytdjpohmgljhhcaa.A
open Go.RowKit Go.Shelf Go.Proofs.YtdjpohmgljhhcaaW.PrintWords Go.Proofs.YtdjpohmgljhhcaaW.PrintLast Go.Proofs.YtdjpohmgljhhcaaW.PrintMore
set_option linter.unusedVariables false
set_option linter.unusedSimpArgs false
set_option maxHeartbeats 4000000
set_option maxRecDepth 100000
attribute [local go_sem] Oper.semAt_some
/-- What a sector has, behind pending writes. -/
def secOf (K : Nat → List Value) (P : List (List Value × Nat)) (i : Nat) : List Value := P.foldl (fun cs x => if x.2 = i then x.1 else cs) (K i)
theorem secOf_snoc (K : Nat → List Value) (P : List (List Value × Nat)) (cs : List Value) (a i : Nat) : secOf K (P ++ [(cs, a)]) i = if a = i then cs else secOf K P i := by simp [secOf]
theorem secOf_nil (K : Nat → List Value) (i : Nat) : secOf K [] i = K i := rfl
theorem secOf_take (K : Nat → List Value) (P : List (List Value × Nat)) (j i : Nat) (hj : j < P.length) : secOf K (P.take (j + 1)) i = if (P.getD j (zeroSec, 0)).2 = i then (P.getD j (zeroSec, 0)).1 else secOf K (P.take j) i := by
  rw [List.take_succ_eq_append_getElem hj, List.getD_eq_getElem?_getD, List.getElem?_eq_getElem hj]
  exact secOf_snoc K _ _ _ i
theorem secOf_sec {K : Nat → List Value} {P : List (List Value × Nat)} {i : Nat} (hK : Sec (K i)) (hP : ∀ x ∈ P, Sec x.1) : Sec (secOf K P i) := by
  unfold secOf
  suffices h : ∀ cs, Sec cs → Sec (P.foldl (fun cs x => if x.2 = i then x.1 else cs) cs) from h _ hK
  induction P with
  | nil => intro cs h; exact h
  | cons x l ih =>
    intro cs h
    rw [List.foldl_cons]
    refine ih (fun y hy => hP y (List.mem_cons_of_mem _ hy)) _ ?_
    split
    · exact hP x (List.mem_cons_self ..)
    · exact h
theorem zero85 : ∀ w, (zeroValue 85).run Try.prog w = .ok (.agg zeroSec.toArray) w := by
  have hi : (Try.prog.info? 85).map (fun i => i.zero) = some (some (.agg zeroSec.toArray)) := by kernel_rfl
  obtain ⟨i, h1, h2⟩ := Option.map_eq_some_iff.1 hi
  intro w
  simp [zeroValue, typeInfo, h1, h2]
theorem size85 : (Try.prog.info? 85).map (·.size) = some 128 := by kernel_rfl
/-- What Read of a sector tells. -/
def SecRead (cs : List Value) (w : World) (e : Ending) (w' : World) : Prop := ∃ g, e = .returned (.tuple #[.slice (some ⟨g, 0, none⟩) 128 128, .int .i64 0]) ∧ w.heap.size ≤ g ∧ BlkIs w' g cs 85 ∧ Below w.heap.size w w'
/-- Rounds that have come, the last one of which has found the sector. -/
def ReadQ (P : List (List Value × Nat)) (i : Nat) (pre : List Nat) (cs : List Value) : Prop := ∃ pre0 x, pre = pre0 ++ [x] ∧ (P.getD x (zeroSec, 0)).2 = i ∧ (∀ y ∈ pre0, (P.getD y (zeroSec, 0)).2 ≠ i) ∧ cs = (P.getD x (zeroSec, 0)).1
theorem readIx_own {β : Type} (B : Nat) (b : Nat) (t : TypeId) (p : β → Prop) (q : β → List Value → Prop) (hb : b < B) : OwnFrom B (fun s W => (∃ cs, q s cs ∧ BlkIs W b cs t) ∧ p s) := by
  rintro s W W' row ⟨⟨cs, h1, h2⟩, h3⟩ hg hr
  refine ⟨⟨cs, h1, ?_⟩, h3⟩
  unfold BlkIs at h2 ⊢
  refine (hg.block b (blk_lt h2) ?_).trans h2
  intro e
  have := (hr b e.symm).1
  omega
theorem readAx_own (B N0 : Nat) (q : Nat → Prop) (cs : List Value) : OwnFrom B (fun (_ : Unit) W => ∃ Bx, N0 ≤ Bx ∧ BlkIs W Bx cs 90 ∧ q Bx) := by
  rintro s W W' row ⟨Bx, h1, h2, h3⟩ hg hr
  refine ⟨Bx, h1, ?_, h3⟩
  unfold BlkIs at h2 ⊢
  refine (hg.block Bx (blk_lt h2) ?_).trans h2
  intro e
  obtain ⟨_, o, ho, hc⟩ := hr Bx e.symm
  rw [h2] at ho
  cases ho
  simp [Obj.isCells] at hc
theorem sec_back (K : Nat → List Value) (P : List (List Value × Nat)) (i k : Nat) (hk : k ≤ P.length) (h : ∀ y ∈ downto P.length k, (P.getD y (zeroSec, 0)).2 ≠ i) : secOf K P i = secOf K (P.take (P.length - k)) i := by
  induction k with
  | zero => rw [Nat.sub_zero, List.take_length]
  | succ k ih =>
    rw [downto_succ] at h
    rw [ih (by omega) (fun y hy => h y (List.mem_append_left _ hy)), show P.length - k = (P.length - 1 - k) + 1 by omega, secOf_take K P _ i (by omega), if_neg (h _ (List.mem_append_right _ (List.mem_singleton.2 rfl)))]
    rw [show P.length - 1 - k = P.length - (k + 1) by omega]
theorem sec_none (K : Nat → List Value) (P : List (List Value × Nat)) (i : Nat) (h : ∀ y ∈ downto P.length P.length, (P.getD y (zeroSec, 0)).2 ≠ i) : secOf K P i = K i := by
  rw [sec_back K P i P.length (Nat.le_refl _) h, Nat.sub_self]
  rfl
theorem sec_found {K : Nat → List Value} {P : List (List Value × Nat)} {i k : Nat} (h1 : 1 ≤ k) (hk : k ≤ P.length) {pre0 : List Nat} {x : Nat} (e1 : downto P.length k = pre0 ++ [x]) (e2 : (P.getD x (zeroSec, 0)).2 = i) (e3 : ∀ y ∈ pre0, (P.getD y (zeroSec, 0)).2 ≠ i) : secOf K P i = (P.getD x (zeroSec, 0)).1 := by
  obtain ⟨k, rfl⟩ : ∃ j, k = j + 1 := ⟨k - 1, by omega⟩
  rw [downto_succ] at e1
  obtain ⟨e4, e5⟩ := List.append_inj' e1 rfl
  simp at e5
  subst e4 e5
  rw [sec_back K P i k (by omega) e3, show P.length - k = (P.length - 1 - k) + 1 by omega, secOf_take K P _ i (by omega), if_pos e2]
theorem keepsFrom_below {B : Nat} {w w' : World} (h : Below w.heap.size w w') : KeepsFrom B w w' := ⟨h.size, fun k o _ hko _ => (h.block k (Array.getElem?_eq_some_iff.1 hko).1).trans hko⟩
theorem entOf_range {w : World} {b : Nat} {P : List (List Value × Nat)} {x : Nat} (hP : ∀ x ∈ P, Sec x.1) (h : BlkIs w b (entOf P x) 90) : w.rangeAt b 0 (P.getD x (zeroSec, 0)).1 ∧ w.cell? ⟨b, 128, none⟩ = some (.int .i64 ((P.getD x (zeroSec, 0)).2 : Int)) := by
  have hl := (getP_sec P hP x).len
  constructor
  · intro j v hv
    refine h.range j v ?_
    rw [entOf, List.getElem?_append_left (List.getElem?_eq_some_iff.1 hv).1]
    exact hv
  · have := h.range 128 (.int .i64 ((P.getD x (zeroSec, 0)).2 : Int)) (by rw [entOf, List.getElem?_append_right (by omega), hl]; rfl)
    rwa [Nat.zero_add] at this
theorem putObj_blk {w : World} {b D : Nat} {cs : List Value} {t : TypeId} (h : BlkIs w b cs t) (o : Obj) (hne : b ≠ D) : BlkIs (w.putObj D o) b cs t := (World.putObj_heap_other hne).trans h
theorem putObj_below {N D : Nat} {w0 w : World} (h : Below N w0 w) (o : Obj) (hD : N ≤ D) (hl : D < w.heap.size) : Below N w0 (w.putObj D o) :=
  h.trans ((Below.refl N w).grown (grownBy_putObj' w D o) (by omega) (fun k e => by cases e; exact hD))
theorem keepsFrom_own {q B : Nat} {w w' : World} (h : Own q w w') (hq : q < B) : KeepsFrom B w w' := ⟨h.size, fun k o hk hko _ => (h.block k (Array.getElem?_eq_some_iff.1 hko).1 (by omega)).trans hko⟩
theorem diskRead_calls {N : Nat} {w : World} {d kq n : Nat} {K : Nat → List Value} {P : List (List Value × Nat)} (h : IsDisk N w d kq n K P) (hP : P.length ≤ 100000) (i : Nat) (hi : i < n) (x : Int) (hx : (i : Int) = x) :
    Calls Try.prog 32 #[.pointer (some ⟨d, 0, none⟩), .int .i64 x] w (SecRead (secOf K P i) w) := by
  subst hx
  obtain ⟨Z, hZ⟩ : ∃ Z : Array Value, zeroSec.toArray = Z := ⟨_, rfl⟩
  have hz85 := zero85
  rw [hZ] at hz85
  have hZs : Z.size = 128 := by rw [← hZ]; simp [zeroSec]
  have H := Aside0.mk (h.grown (below_alloc (Below.refl _ w) (.cells #[.int .i64 (i : Int)] 3)))
  have HI := Aside0.mk hi
  obtain ⟨pv, hd⟩ := h
  obtain ⟨cs, hcs⟩ : ∃ cs, K i = cs := ⟨_, rfl⟩
  have hsec : Sec cs := by rw [← hcs]; exact hd.sec i hi
  obtain ⟨kc, k1, k2, k3⟩ := hd.kept
  have hb0 : Below w.heap.size w (w.alloc (.cells #[.int .i64 (i : Int)] 3)) := below_alloc (Below.refl _ w) _
  have hc0 : (w.alloc (.cells #[.int .i64 (i : Int)] 3)).cell? ⟨d, 0, none⟩ = some (.slice (some ⟨kq, 0, none⟩) n n) := (blk_cell (blk_below hd.self hb0) 0).trans rfl
  have hdp : (w.alloc (.cells #[.int .i64 (i : Int)] 3)).cell? ⟨d, 1, none⟩ = some pv := (blk_cell (blk_below hd.self hb0) 1).trans rfl
  have hc1 : (w.alloc (.cells #[.int .i64 (i : Int)] 3)).cell? ⟨w.heap.size, 0, none⟩ = some (.int .i64 (i : Int)) := (blk_cell (blk_new w _) 0).trans rfl
  have hr0 : (w.alloc (.cells #[.int .i64 (i : Int)] 3)).rangeAt kq (i * 128) cs := fun j v hv => by
    refine (blk_cell (blk_below k1 hb0) _).trans (k3 i j v hi ?_)
    rw [hcs]
    exact hv
  have hba : Below (w.heap.size + 1) (w.alloc (.cells #[.int .i64 (i : Int)] 3)) ((w.alloc (.cells #[.int .i64 (i : Int)] 3)).drew.alloc (.cells Z 85)) := (below_drew1 (Below.refl _ _)).alloc (by simp) _
  have hc0a : ((w.alloc (.cells #[.int .i64 (i : Int)] 3)).drew.alloc (.cells Z 85)).cell? ⟨d, 0, none⟩ = some (.slice (some ⟨kq, 0, none⟩) n n) := (hba.cell (p := ⟨d, 0, none⟩) (by have := blk_lt hd.self; simp; omega)).trans hc0
  have hdpa : ((w.alloc (.cells #[.int .i64 (i : Int)] 3)).drew.alloc (.cells Z 85)).cell? ⟨d, 1, none⟩ = some pv := (hba.cell (p := ⟨d, 1, none⟩) (by have := blk_lt hd.self; simp; omega)).trans hdp
  have hc1a : ((w.alloc (.cells #[.int .i64 (i : Int)] 3)).drew.alloc (.cells Z 85)).cell? ⟨w.heap.size, 0, none⟩ = some (.int .i64 (i : Int)) := (hba.cell (p := ⟨w.heap.size, 0, none⟩) (by simp)).trans hc1
  have hr0a : ((w.alloc (.cells #[.int .i64 (i : Int)] 3)).drew.alloc (.cells Z 85)).rangeAt kq (i * 128) cs := fun j v hv => (hba.cell (p := ⟨kq, i * 128 + j, none⟩) (by have := blk_lt k1; simp; omega)).trans (hr0 j v hv)
  have hnb : BlkIs ((w.alloc (.cells #[.int .i64 (i : Int)] 3)).drew.alloc (.cells Z 85)) (w.heap.size + 1) Z.toList 85 := by
    have := blk_alloc (w.alloc (.cells #[.int .i64 (i : Int)] 3)).drew Z 85
    simpa using this
  obtain ⟨W6, hst, hb6, ho6⟩ := store_blk (vs := cs) hnb (by simp [hZs, hsec.len]) hsec.bytes.one
  have hst2 : Sem.run Try.prog (storeCells ⟨w.heap.size + 1, 0, none⟩ cs) ((w.alloc (.cells #[.int .i64 (i : Int)] 3)).alloc (.cells Z 85)).drew = .ok () W6 := hst
  have hc06 : W6.cell? ⟨d, 0, none⟩ = some (.slice (some ⟨kq, 0, none⟩) n n) := cell_own ho6 hc0a (by have := blk_lt hd.self; simp; omega)
  have hdp6 : W6.cell? ⟨d, 1, none⟩ = some pv := cell_own ho6 hdpa (by have := blk_lt hd.self; simp; omega)
  have hc16 : W6.cell? ⟨w.heap.size, 0, none⟩ = some (.int .i64 (i : Int)) := cell_own ho6 hc1a (by simp)
  have hr06 : W6.rangeAt kq (i * 128) cs := range_own ho6 hr0a (by have := blk_lt k1; omega)
  have hbw6 : Below w.heap.size w W6 := (hb0.trans (hba.mono (by omega))).trans (ho6.below (by omega) (by simp; omega))
  have HB6 := Aside0.mk hb6
  have HW6 := Aside0.mk hbw6
  have hpo := Aside0.mk (own_below hd.pend hbw6)
  have hPs := Aside0.mk hd.psec
  have hi85 := Aside0.mk (show (Try.prog.info? 85).map (·.size) = some cs.length by rw [hsec.len]; exact size85)
  obtain ⟨Apv, lpv, cpv, hpv⟩ : ∃ A l c, pv = .slice A l c := by
    rcases hd.pend.2 with ⟨e, _⟩ | ⟨g, cap, cur, e, _⟩
    · exact ⟨_, _, _, e⟩
    · exact ⟨_, _, _, e⟩
  have HPV := Aside0.mk hpv
  have hcl : cs.length = 128 := hsec.len
  have i0 : (0 : Int) ≤ (i : Int) := by omega
  have i1 : (i : Int) < (n : Int) := by omega
  clear hZ hd k1 k2 k3 hb0 hba hdpa hnb ho6 hb6 hbw6 hsec hpv hdp
  refine (callsIn_wide (n := 10)).1 (callsIn_of_wp_marks Try.func32 rfl trivial (wpIn_wide.2 ?_))
  simp only [Try.ntmps32, List.size_toArray, List.length_cons, List.length_nil, Nat.reduceAdd, Nat.reduceSub, Array.replicate_succ, Array.replicate_zero, List.push_toArray, List.append_toArray, List.nil_append, List.cons_append]
  go_wp2_with (first | (go_at_call 49; (with_reducible refine (within_calls H.out i HI.out _ rfl).mono ?_); rintro e w1 ⟨rfl, hw1⟩; obtain rfl := hw1.symm))
  refine wp_region_noPanic ?_
  refine wp_region_held_drew (S := fun w' => w'.cell? ⟨d, 0, none⟩ = some (.slice (some ⟨kq, 0, none⟩) n n) ∧ w'.cell? ⟨w.heap.size, 0, none⟩ = some (.int .i64 (i : Int)) ∧ w'.rangeAt kq (i * 128) cs) (by kernel_rfl) ⟨hc0, hc1, hr0⟩ (fun hHeld => ?_)
  refine wpAnyH_take (i := 0) (oi := ?o1) (v := ?v1) ?ho1 (by kernel_rfl) (by kernel_rfl) (by kernel_rfl) ?hp1 ?hy1 (by assumption) ?rest1
  case ho1 => (simp only [List.getElem?_toArray, List.getElem?_cons_succ, List.getElem?_cons_zero]; with_reducible rfl)
  case hp1 => exact fun _ _ _ h => h
  case hy1 => (refine Or.inl ⟨by rfl, ?_⟩; intro w' hSw; (try dsimp only at hSw); obtain ⟨q1, q2, q3⟩ := hSw; go_simp; try (with_reducible rfl))
  try simp only [Act.put, List.setIfInBounds_toArray, List.set_cons_zero, List.set_cons_succ]
  refine wpAnyH_take (i := 1) (oi := ?o2) (v := ?v2) ?ho2 (by kernel_rfl) (by kernel_rfl) (by kernel_rfl) ?hp2 ?hy2 (by assumption) ?rest2
  case ho2 => (simp only [List.getElem?_toArray, List.getElem?_cons_succ, List.getElem?_cons_zero]; with_reducible rfl)
  case hp2 => exact fun _ _ _ h => h
  case hy2 => (refine Or.inl ⟨by rfl, ?_⟩; intro w' hSw; (try dsimp only at hSw); obtain ⟨q1, q2, q3⟩ := hSw; go_simp; try (with_reducible rfl))
  try simp only [Act.put, List.setIfInBounds_toArray, List.set_cons_zero, List.set_cons_succ]
  refine wpAnyH_take (i := 2) (oi := ?o3) (v := ?v3) ?ho3 (by kernel_rfl) (by kernel_rfl) (by kernel_rfl) ?hp3 ?hy3 (by assumption) ?rest3
  case ho3 => (simp only [List.getElem?_toArray, List.getElem?_cons_succ, List.getElem?_cons_zero]; with_reducible rfl)
  case hp3 => exact fun _ _ _ h => h
  case hy3 => (refine Or.inl ⟨by rfl, ?_⟩; intro w' hSw; (try dsimp only at hSw); obtain ⟨q1, q2, q3⟩ := hSw; go_simp; try (with_reducible rfl))
  try simp only [Act.put, List.setIfInBounds_toArray, List.set_cons_zero, List.set_cons_succ]
  refine wpAnyH_take (i := 3) (oi := ?o4) (v := ?v4) ?ho4 (by kernel_rfl) (by kernel_rfl) (by kernel_rfl) ?hp4 ?hy4 (by assumption) ?rest4
  case ho4 => (simp only [List.getElem?_toArray, List.getElem?_cons_succ, List.getElem?_cons_zero]; with_reducible rfl)
  case hp4 => exact fun _ _ _ h => h
  case hy4 => (refine Or.inl ⟨by rfl, ?_⟩; intro w' hSw; (try dsimp only at hSw); obtain ⟨q1, q2, q3⟩ := hSw; go_simp; try (with_reducible rfl))
  try simp only [Act.put, List.setIfInBounds_toArray, List.set_cons_zero, List.set_cons_succ]
  refine wpAnyH_take (i := 4) (oi := ?o5) (v := ?v5) ?ho5 (by kernel_rfl) (by kernel_rfl) (by kernel_rfl) ?hp5 ?hy5 (by assumption) ?rest5
  case ho5 => (simp only [List.getElem?_toArray, List.getElem?_cons_succ, List.getElem?_cons_zero]; with_reducible rfl)
  case hp5 => exact fun _ _ _ h => h
  case hy5 => (refine Or.inl ⟨by rfl, ?_⟩; intro w' hSw; (try dsimp only at hSw); obtain ⟨q1, q2, q3⟩ := hSw; go_simp; try (with_reducible rfl))
  try simp only [Act.put, List.setIfInBounds_toArray, List.set_cons_zero, List.set_cons_succ]
  refine wpAnyH_take (i := 5) (oi := ?o6) (v := ?v6) ?ho6 (by kernel_rfl) (by kernel_rfl) (by kernel_rfl) ?hp6 ?hy6 (by assumption) ?rest6
  case ho6 => (simp only [List.getElem?_toArray, List.getElem?_cons_succ, List.getElem?_cons_zero]; with_reducible rfl)
  case hp6 => exact fun _ _ _ h => h
  case hy6 => (refine Or.inl ⟨by rfl, ?_⟩; intro w' hSw; (try dsimp only at hSw); obtain ⟨q1, q2, q3⟩ := hSw; go_simp; try (with_reducible rfl))
  try simp only [Act.put, List.setIfInBounds_toArray, List.set_cons_zero, List.set_cons_succ]
  refine wpAnyH_take (i := 6) (oi := ?o7) (v := .agg cs.toArray) ?ho7 (by kernel_rfl) (by kernel_rfl) (by kernel_rfl) ?hp7 ?hy7 (by assumption) ?rest7
  case ho7 => (simp only [List.getElem?_toArray, List.getElem?_cons_succ, List.getElem?_cons_zero]; with_reducible rfl)
  case hp7 => exact fun _ _ _ h => h
  case hy7 => exact yieldsIf_load_mid (by rfl) 85 (.tmp 21) rfl kq (i * 128) rfl cs _ (fun w' h => h.2.2) Try.underlying85 rfl hi85.out
  try simp only [Act.put, List.setIfInBounds_toArray, List.set_cons_zero, List.set_cons_succ]
  refine wpAnyH_ready (rs := [7]) (by kernel_rfl) (by simp) ?_
  refine AllReadyH.cons (o := ?o9) ?ho9 ?st9 AllReadyH.nil
  case ho9 => (simp only [List.getElem?_toArray, List.getElem?_cons_succ, List.getElem?_cons_zero]; with_reducible rfl)
  case st9 =>
    intro K hK
    go_simp
    refine hK.out _ _ ⟨hc0a, hc1a, hr0a⟩ (fun _ => ?_)
    clear hK K
    try simp only [Act.put, List.setIfInBounds_toArray, List.set_cons_zero, List.set_cons_succ]
    refine wpAnyH_ready (rs := [8]) (by kernel_rfl) (by simp) ?_
    refine AllReadyH.cons (o := ?o8) ?ho8 ?st8 AllReadyH.nil
    case ho8 => (simp only [List.getElem?_toArray, List.getElem?_cons_succ, List.getElem?_cons_zero]; with_reducible rfl)
    case st8 =>
      intro K hK
      go_simp
      refine hK.out _ _ ⟨hc06, hc16, hr06⟩ (fun _ => ?_)
      clear hK K
      try simp only [Act.put, List.setIfInBounds_toArray, List.set_cons_zero, List.set_cons_succ]
      refine wpAnyH_done (by kernel_rfl) ?_ _
      refine NoPanic.normal ?_
      go_wp2_with (first | (go_at_call 50; (with_reducible refine (Backward_calls _ pv Apv lpv cpv HPV.out).mono ?_); rintro e w1 ⟨rfl, hw1⟩; subst hw1))
      have HB7 := Aside0.mk (below_alloc (Below.refl _ W6) (.cells #[pv] 71))
      have HV7 := Aside0.mk (show (W6.alloc (.cells #[pv] 71)).cell? ⟨W6.heap.size, 0, none⟩ = some pv from (blk_cell (blk_new W6 _) 0).trans rfl)
      refine (wpIn_wide (n := 10)).1 ?_
      refine wpIn_rangeFunc_ownH (F := Fence.wide) (w0 := W6.alloc (.cells #[pv] 71)) rfl (by decide) (gf := 57) (lb := #[.pointer (some ⟨W6.heap.size, 0, none⟩)]) rfl trivial (enters_of Try.func57 (by kernel_rfl) rfl)
        (backward_stops Fence.wide 9 trivial rfl (by decide) W6.heap.size pv P (fun x hx => (hPs.out x hx).1) hP _ N HV7.out (own_below hpo.out HB7.out)) belowK_t (belowK_b (Nat.le_refl _)) (Below.refl _ _) (fun _ => rfl)
        (fun pre W => Below (W6.alloc (.cells #[pv] 71)).heap.size (W6.alloc (.cells #[pv] 71)) W ∧ ∀ y ∈ pre, (P.getD y (zeroSec, 0)).2 ≠ i)
        (fun c pre W => ((∃ cs', ReadQ P i pre cs' ∧ BlkIs W (w.heap.size + 1) cs' 85) ∧ c = .exit 0) ∧ Below w.heap.size w W)
        (OwnFrom.and (ownFrom_below (Nat.le_refl _) (Nat.le_refl _)) (ownFrom_pure _ _))
        (fun c => OwnFrom.and (readIx_own (W6.alloc (.cells #[pv] 71)).heap.size (w.heap.size + 1) 85 (fun _ => c = .exit 0) (ReadQ P i) (by have := (range_lt (BlkIs.range HB6.out) (by rw [hcl]; decide)); simp; omega)) (ownFrom_below (Nat.le_refl _) (Nat.le_trans HW6.out.size (by simp))))
        ⟨Below.refl _ _, fun y hy => by simp at hy⟩
        (fun x a' W => ∃ Bx, (W6.alloc (.cells #[pv] 71)).heap.size ≤ Bx ∧ BlkIs W Bx (entOf P x) 90 ∧ a' = { tmps := #[Value.pointer (some ⟨d, 0, none⟩), .int .i64 (i : Int), undef, .pointer (some ⟨w.heap.size, 0, none⟩), .slice none 0 0, .int .i64 0, .int .i64 0, .pointer (some ⟨w.heap.size + 1, 0, none⟩), undef, .pointer (some ⟨Bx, 0, none⟩), .pointer (some ⟨d, 0, none⟩), .int .i64 (i : Int), .int .i64 0, .int .i64 0, .bool false, undef, .pointer (some ⟨d, 0, none⟩), .pointer (some ⟨d, 0, none⟩), .pointer (some ⟨d, 0, none⟩), .slice (some ⟨kq, 0, none⟩) n n, .int .i64 (i : Int), .pointer (some ⟨kq, i * 128, none⟩), .agg cs.toArray, .pointer (some ⟨d, 0, none⟩), .pointer (some ⟨d, 0, none⟩), .pointer (some ⟨d, 1, none⟩), pv, .func (.func 57) #[] #[.pointer (some ⟨W6.heap.size, 0, none⟩)], .int .i64 (x : Int), .agg (entOf P x).toArray, undef, undef, undef, undef, undef, undef, undef], defers := [] })
        (fun x a' => readAx_own (W6.alloc (.cells #[pv] 71)).heap.size (W6.alloc (.cells #[pv] 71)).heap.size (fun Bx => a' = { tmps := #[Value.pointer (some ⟨d, 0, none⟩), .int .i64 (i : Int), undef, .pointer (some ⟨w.heap.size, 0, none⟩), .slice none 0 0, .int .i64 0, .int .i64 0, .pointer (some ⟨w.heap.size + 1, 0, none⟩), undef, .pointer (some ⟨Bx, 0, none⟩), .pointer (some ⟨d, 0, none⟩), .int .i64 (i : Int), .int .i64 0, .int .i64 0, .bool false, undef, .pointer (some ⟨d, 0, none⟩), .pointer (some ⟨d, 0, none⟩), .pointer (some ⟨d, 0, none⟩), .slice (some ⟨kq, 0, none⟩) n n, .int .i64 (i : Int), .pointer (some ⟨kq, i * 128, none⟩), .agg cs.toArray, .pointer (some ⟨d, 0, none⟩), .pointer (some ⟨d, 0, none⟩), .pointer (some ⟨d, 1, none⟩), pv, .func (.func 57) #[] #[.pointer (some ⟨W6.heap.size, 0, none⟩)], .int .i64 (x : Int), .agg (entOf P x).toArray, undef, undef, undef, undef, undef, undef, undef], defers := [] }) (entOf P x)) ?assign ?body ?done ?stop
      case assign =>
        intro l pre x W K2 hI hK
        obtain ⟨Z9, hZ9⟩ : ∃ Z9 : Array Value, (zeroSec ++ [Value.int .i64 0]).toArray = Z9 := ⟨_, rfl⟩
        have hz90 := zero90
        rw [hZ9] at hz90
        have hZ9s : Z9.size = 129 := by rw [← hZ9]; simp [zeroSec]
        have hel := entOf_len P (fun x hx => (hPs.out x hx).1) x
        obtain ⟨W8, hst8, hb8, ho8⟩ := store_blk (blk_alloc W Z9 90) (vs := entOf P x) (by simp [hZ9s, hel]) (entOf_one P (fun x hx => (hPs.out x hx).1) x)
        have hbw : Below W.heap.size W W8 := (below_alloc (Below.refl _ W) _).trans (ho8.below (Nat.le_refl _) (by simp))
        have HBW := Aside0.mk hbw
        have HB8 := Aside0.mk hb8
        have HI := Aside0.mk hI
        have HK := Aside0.mk hK
        clear hZ9 hbw hb8 ho8 hI hK
        dsimp only [encW]
        gi_wp2
        exact HK.out _ _ (keepsFrom_below HBW.out) (HBW.out.mono HI.out.1.size) ⟨HI.out.1.trans (HBW.out.mono HI.out.1.size), HI.out.2⟩ ⟨W.heap.size, HI.out.1.size, HB8.out, rfl⟩
      case body =>
        rintro l pre x a' W hl ⟨r, hr⟩ ⟨hbel, hno⟩ ⟨Bx, hBx, hblk, rfl⟩ hlen
        obtain ⟨hrx, hcat⟩ := entOf_range (fun x hx => (hPs.out x hx).1) hblk
        have hsz7 : w.heap.size + 1 < W6.heap.size := range_lt (BlkIs.range HB6.out) (by rw [hcl]; decide)
        have hci : W.cell? ⟨w.heap.size, 0, none⟩ = some (.int .i64 (i : Int)) := (hbel.cell (p := ⟨w.heap.size, 0, none⟩) (by simp; omega)).trans ((HB7.out.cell (p := ⟨w.heap.size, 0, none⟩) (by simp; omega)).trans hc16)
        have hvl := (getP_sec P (fun x hx => (hPs.out x hx).1) x)
        have HNO := Aside0.mk hno
        have HBEL := Aside0.mk hbel
        have hsb : BlkIs W (w.heap.size + 1) cs 85 := (hbel.block _ (by simp; omega)).trans ((HB7.out.block _ (by omega)).trans HB6.out)
        have HBW := Aside0.mk (show Below w.heap.size w W from (HW6.out.trans (HB7.out.mono HW6.out.size)).trans (hbel.mono (by have := HW6.out.size; simp; omega)))
        by_cases hat : (P.getD x (zeroSec, 0)).2 = i
        · rw [hat] at hcat
          obtain ⟨vs, hvs⟩ : ∃ vs, (P.getD x (zeroSec, 0)).1 = vs := ⟨_, rfl⟩
          rw [hvs] at hrx hvl
          obtain ⟨W8, hst8, hb8, ho8⟩ := store_blk hsb (vs := vs) (by rw [hvl.len, hcl]) hvl.bytes.one
          have hvl2 : vs.length = 128 := hvl.len
          have HRX := Aside0.mk hrx
          have HVL := Aside0.mk (show (Try.prog.info? 85).map (·.size) = some vs.length by rw [hvl.len]; exact size85)
          have HQ := Aside0.mk (show ReadQ P i (pre ++ [x]) vs from ⟨pre, x, rfl, hat, hno, hvs.symm⟩)
          have HB8 := Aside0.mk hb8
          have HO8 := Aside0.mk ho8
          have HS7 := Aside0.mk hsz7
          have HV := Aside0.mk hvs
          clear hat hvs hvl hrx hsb hb8 ho8 hno hbel hblk hr hl hBx hlen hsz7
          gi_wp2_with (first | (refine loadIn_mid rfl 85 (.tmp 34) rfl Bx 0 rfl vs _ HRX.out Try.underlying85 rfl HVL.out ?_))
          exact ⟨keepsFrom_own HO8.out (by have := HS7.out; simp; omega), ⟨⟨vs, HQ.out, HB8.out⟩, rfl⟩, HBW.out.trans (HO8.out.below (by omega) HBW.out.size)⟩
        · have HAT := Aside0.mk hat
          have hat2 : ¬ (((P.getD x (zeroSec, 0)).2 : Nat) : Int) = (i : Int) := by omega
          obtain ⟨at1, hat1⟩ : ∃ at1, (P.getD x (zeroSec, 0)).2 = at1 := ⟨_, rfl⟩
          rw [hat1] at hcat hat2
          clear hat1 hat
          clear hvl hrx hsb hno hbel hblk hr hl hBx hlen hsz7
          gi_wp2
          exact ⟨KeepsFrom.refl _ _, Below.refl _ _, HBEL.out, fun y hy => by
            rcases List.mem_append.1 hy with hy | hy
            · exact HNO.out y hy
            · simp at hy; subst hy; exact HAT.out⟩
      case done =>
        rintro D ys W hD rfl ⟨hbel, hno⟩ hK
        have hsz7 : w.heap.size + 1 < W6.heap.size := range_lt (BlkIs.range HB6.out) (by rw [hcl]; decide)
        have hsb : BlkIs W (w.heap.size + 1) cs 85 := (hbel.block _ (by simp; omega)).trans ((HB7.out.block _ (by omega)).trans HB6.out)
        have hbw : Below w.heap.size w W := (HW6.out.trans (HB7.out.mono HW6.out.size)).trans (hbel.mono (by have := HW6.out.size; simp; omega))
        have hdl : D < W.heap.size := (Array.getElem?_eq_some_iff.1 hK).1
        have HR := Aside0.mk (show SecRead (secOf K P i) w (.returned (.tuple #[.slice (some ⟨w.heap.size + 1, 0, none⟩) 128 128, .int .i64 0])) (W.putObj D (.deferred none)) from
          ⟨w.heap.size + 1, rfl, by omega, by rw [sec_none K P i hno, hcs]; exact putObj_blk hsb _ (by simp at hD; omega), putObj_below hbw _ (by have := HW6.out.size; simp at hD; omega) hdl⟩)
        have HK := Aside0.mk hK
        clear hbel hno hsb hbw hK hsz7
        go_wp2
        refine ⟨by simp, .inl ⟨_, _, rfl, run_takeDeferred HK.out, ?_⟩⟩
        exact ⟨.tuple #[.slice (some ⟨w.heap.size + 1, 0, none⟩) 128 128, .int .i64 0], results_tmp2 (t := 4) (u := 5) rfl _ _ _, HR.out⟩
      case stop =>
        rintro D c pre W hD ⟨k, k1, k2, rfl⟩ ⟨⟨⟨cs', ⟨pre0, x, e1, e2, e3, rfl⟩, hblk⟩, rfl⟩, hbw⟩ hK
        have hsz7 : w.heap.size + 1 < W6.heap.size := range_lt (BlkIs.range HB6.out) (by rw [hcl]; decide)
        have hdl : D < W.heap.size := (Array.getElem?_eq_some_iff.1 hK).1
        have HR := Aside0.mk (show SecRead (secOf K P i) w (.returned (.tuple #[.slice (some ⟨w.heap.size + 1, 0, none⟩) 128 128, .int .i64 0])) (W.putObj D (.deferred none)) from
          ⟨w.heap.size + 1, rfl, by omega, by rw [sec_found k1 k2 e1 e2 e3]; exact putObj_blk hblk _ (by simp at hD; omega), putObj_below hbw _ (by have := HW6.out.size; simp at hD; omega) hdl⟩)
        have HK := Aside0.mk hK
        clear hblk hbw hK hsz7 e1 e2 e3
        refine wpIn_wide.2 ?_
        go_wp2
        refine ⟨by simp, .inl ⟨_, _, rfl, run_takeDeferred HK.out, ?_⟩⟩
        exact ⟨.tuple #[.slice (some ⟨w.heap.size + 1, 0, none⟩) 128 128, .int .i64 0], results_tmp2 (t := 4) (u := 5) rfl _ _ _, HR.out⟩
end Go.Proofs.Ytdjpohmgljhhcaa.A
