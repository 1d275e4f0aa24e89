/- A pager made; a page dropped, released; Settle, Undo. -/
import Derived.Test.YtdjpohmgljhhcaaX16
namespace Go.Proofs.Ytdjpohmgljhhcaa.A
open Go.RowKit Go.Proofs.YtdjpohmgljhhcaaW.PrintWords Go.Proofs.YtdjpohmgljhhcaaW.PrintLast Go.Proofs.YtdjpohmgljhhcaaW.PrintMore
set_option linter.unusedVariables false
set_option linter.unusedSimpArgs false
set_option maxHeartbeats 4000000
set_option maxRecDepth 100000
/-- What New of a pager tells. -/
def PMade (N d fr n dn : Nat) (K : Nat → List Value) (P : List (List Value × Nat)) (w : World) (e : Ending) (w' : World) : Prop := ∃ p, e = .returned (.tuple #[.pointer (some ⟨p, 0, none⟩), .int .i64 0]) ∧ IsPager N w' p d fr n dn (fun _ => 0) K P ∧ Below w.heap.size w w'
theorem tk_free (n : Nat) : tk n (fun _ => 0) = fun _ => false := by
  funext x
  simp [tk]
theorem pagerNew_calls {N : Nat} {w : World} {d kq dn : Nat} {K : Nat → List Value} {P : List (List Value × Nat)} (h : IsDisk N w d kq dn K P) (fr n : Nat) (h1 : 1 ≤ n) (hg : fr + n * 8 ≤ dn) (x y : Int) (hx : (fr : Int) = x) (hy : (n : Int) = y) : Calls Try.prog 17 #[.pointer (some ⟨d, 0, none⟩), .int .i64 x, .int .i64 y] w (PMade N d fr n dn K P w) := by
  subst hx hy
  have H := Aside0.mk h
  have hdn := h.lt.2
  have HN := Aside0.mk h.lt.1
  have hn : n ≤ 16384 := by omega
  have hm := print_make 48 60 .i64 8 Try.underlying48 (by kernel_rfl) (by decide) n (by omega)
  have e0 : ¬ (dn : Int) = 0 := by omega
  have e1 : ¬ (fr : Int) < 0 := by omega
  have e2 : ¬ (n : Int) < 1 := by omega
  have e3 : ¬ (dn : Int) / 8 < (n : Int) := by omega
  have e4 : ¬ (dn : Int) - (n : Int) * 8 < (fr : Int) := by omega
  have e5 : (dn : Int) ≤ 16384 := by omega
  have e6 : (n : Int) ≤ 16384 := by omega
  have e7 : (fr : Int) ≤ 16384 := by omega
  have e8 : ¬ dn = 0 := by omega
  clear h
  go_enter Try.func17, Try.ntmps17
  go_wp2_with (first | (go_at_call 33; (with_reducible refine (diskSize_calls H.out).mono ?_); rintro e w1 ⟨rfl, hw1⟩; obtain rfl := hw1.symm) | (go_at_call 34; (with_reducible refine (New_calls n h1 hn _ rfl _).mono ?_); rintro e w2 ⟨pa, qa, rfl, hpa, hqa, ha, hb⟩; have HA2 := Aside0.mk ha; have HQ2 := Aside0.mk hqa; have HB2 := Aside0.mk hb; clear hpa hqa ha hb) | ((with_reducible refine gate_dst (N := 48) rfl ?_); refine box_event ?hg (N := 48) ?hd (cs := #[.pointer (some ⟨pa, 0, none⟩), .pointer (some ⟨d, 0, none⟩), .int .i64 (fr : Int), .slice (some ⟨w2.heap.size, 0, none⟩) n n]) (t := 50) ?hr ?_; (case hd => rfl); (case hg => rfl); (case hr => first | (go_simp; done) | (go_simp; rfl)); intro gb hg w3 hbox hb; have HBX := Aside0.mk hbox; have HB := Aside0.mk hb; have HG := Aside0.mk hg; clear hbox hb hg))
  go_ret2
  have hb1 : Below w.heap.size w w3 := HB2.out.trans ((below_alloc (Below.refl _ _) _).trans (HB.out.mono (by simp)) |>.mono HB2.out.size)
  have hst : w3.heap[w2.heap.size]? = some (.cells (madeCells #[.int .i64 0] n) 60 (0, 0)) := (HB.out.block _ (by simp)).trans (blk_new w2 _)
  exact ⟨gb, rfl, ⟨pa, qa, kq, w2.heap.size, n, {
    self := HBX.out
    alloc := by rw [tk_free]; exact HA2.out.grown ((below_alloc (Below.refl _ _) _).trans (HB.out.mono (by simp)))
    disk := H.out.grown hb1
    states := ⟨_, hst, fun i hi => by simp [madeCells, hi, Nat.mod_one]⟩
    vals := fun _ _ => by omega
    bq := Nat.le_trans HN.out HQ2.out
    bs := Nat.le_trans HN.out HB2.out.size
    geo := hg }⟩, hb1⟩
/-- One page's state turned. -/
def upd (S : Nat → Nat) (i s : Nat) : Nat → Nat := fun x => if x = i then s else S x
theorem tk_upd (n : Nat) (S : Nat → Nat) (i s : Nat) (hi : i < n) (tb : Bool) (hb : tb = decide (s ≠ 0)) : setT (tk n S) i 1 tb = tk n (upd S i s) := by
  funext x
  unfold setT tk upd
  by_cases e : x = i
  · subst e
    rw [if_pos (by omega), if_pos rfl, hb, decide_eq_true hi, Bool.true_and]
  · rw [if_neg (by omega), if_neg e]
theorem tk_same (n : Nat) (S : Nat → Nat) (i s : Nat) (hi : i < n) (h0 : S i ≠ 0) (hs : s ≠ 0) : tk n S = tk n (upd S i s) := by
  funext x
  unfold tk upd
  by_cases e : x = i
  · subst e
    rw [if_pos rfl, decide_eq_true h0, decide_eq_true hs]
  · rw [if_neg e]
theorem PagerAt.put {N : Nat} {w W : World} {p a q d kq sq c fr n dn : Nat} {S : Nat → Nat} {K : Nat → List Value} {P : List (List Value × Nat)} (h : PagerAt N w p a q d kq sq c fr n dn S K P) (ho : Own q w W) (i s : Nat) (hi : i < n) (hs : s ≤ 3) (ha : IsAlloc W a q n (tk n (upd S i s))) :
    PagerAt N (W.setCell ⟨sq, i, none⟩ (.int .i64 (s : Int))) p a q d kq sq c fr n dn (upd S i s) K P ∧ Moves Mp N w (W.setCell ⟨sq, i, none⟩ (.int .i64 (s : Int))) := by
  have hm1 : Moves (fun t => t == 77) N w W := Own.moves h.alloc ho rfl h.bq
  have hst : StatesAt W sq n S := h.states.moves hm1 rfl
  obtain ⟨sc, s1, s2⟩ := hst
  have hm2 : Moves (fun t => t == 60) N W (W.setCell ⟨sq, i, none⟩ (.int .i64 (s : Int))) := (Moves.refl _ N W).set s1 rfl h.bs i _
  constructor
  · exact {
      self := (hm2.old _ _ _ _ ((hm1.old _ _ _ _ h.self rfl).trans h.self) rfl).trans ((hm1.old _ _ _ _ h.self rfl).trans h.self)
      alloc := ha.moves hm2 rfl rfl
      disk := (h.disk.moves hm1 rfl rfl rfl).moves hm2 rfl rfl rfl
      states := StatesAt.put ⟨sc, s1, s2⟩ i hi s
      vals := by
        intro j hj
        unfold upd
        split
        · exact hs
        · exact h.vals j hj
      bq := h.bq
      bs := h.bs
      geo := h.geo }
  · exact (hm1.mono (fun t ht => by simp [Mp] at ht ⊢; simp [ht]) (Nat.le_refl _)).trans (hm2.mono (fun t ht => by simp [Mp] at ht ⊢; simp [ht]) (Nat.le_refl _))
theorem PagerAt.set {N : Nat} {w : World} {p a q d kq sq c fr n dn : Nat} {S : Nat → Nat} {K : Nat → List Value} {P : List (List Value × Nat)} (h : PagerAt N w p a q d kq sq c fr n dn S K P) (i s : Nat) (hi : i < n) (hs : s ≤ 3) (h0 : S i ≠ 0) (hs0 : s ≠ 0) :
    PagerAt N (w.setCell ⟨sq, i, none⟩ (.int .i64 (s : Int))) p a q d kq sq c fr n dn (upd S i s) K P ∧ Moves Mp N w (w.setCell ⟨sq, i, none⟩ (.int .i64 (s : Int))) :=
  h.put (Own.refl _ _) i s hi hs (by rw [← tk_same n S i s hi h0 hs0]; exact h.alloc)
theorem Give_one {w : World} {p q n : Nat} {T : Nat → Bool} (h : IsAlloc w p q n T) (i : Nat) (hi : i < n) (ht : T i = true) (x : Int) (hx : (i : Int) = x) : Calls Try.prog 29 #[.pointer (some ⟨p, 0, none⟩), .int .i64 x, .int .i64 1] w fun e w' => e = .returned (.int .i64 0) ∧ IsAlloc w' p q n (setT T i 1 false) ∧ Own q w w' := by
  subst hx
  refine (Give_calls h (i : Int) 1 (by decide)).mono ?_
  rintro e w' ⟨er, T', rfl, hr, ha, ho⟩
  rcases hr with ⟨g, _⟩ | ⟨_, g, _⟩ | ⟨_, _, _, ⟨j, g1, g2, g3⟩, _⟩ | ⟨_, _, _, _, rfl, rfl⟩
  · omega
  · omega
  · obtain rfl : j = i := by omega
    rw [ht] at g3
    simp at g3
  · rw [Int.toNat_natCast] at ha
    exact ⟨rfl, ha, ho⟩
/-- What a call leaves of a pager. -/
def PGoes (N p d fr n dn : Nat) (S' : Nat → Nat) (K : Nat → List Value) (P : List (List Value × Nat)) (v : Value) (w : World) (e : Ending) (w' : World) : Prop := e = .returned v ∧ IsPager N w' p d fr n dn S' K P ∧ Moves Mp N w w'
theorem drop_calls {N : Nat} {w : World} {p d fr n dn : Nat} {S : Nat → Nat} {K : Nat → List Value} {P : List (List Value × Nat)} (h : IsPager N w p d fr n dn S K P) (i : Nat) (hi : i < n) (h0 : S i ≠ 0) (x : Int) (hx : (i : Int) = x) : Calls Try.prog 35 #[.pointer (some ⟨p, 0, none⟩), .int .i64 x] w (PGoes N p d fr n dn (upd S i 0) K P (.tuple #[]) w) := by
  subst hx
  obtain ⟨a, q, kq, sq, c, h⟩ := h
  have HP := Aside0.mk h
  have hc0 : w.cell? ⟨p, 0, none⟩ = some (.pointer (some ⟨a, 0, none⟩)) := (blk_cell h.self 0).trans rfl
  have HT := Aside0.mk (show tk n S i = true by simp [tk, hi, h0])
  have HI := Aside0.mk hi
  have i0 : (0 : Int) ≤ (i : Int) := by omega
  have i1 : (i : Int) < (n : Int) := by omega
  clear h hi h0
  go_enter Try.func35, Try.ntmps35
  go_wp2_with (first | (go_at_call 29; (with_reducible refine (Give_one HP.out.alloc i HI.out HT.out _ rfl).mono ?_); rintro e w1 ⟨rfl, ha, ho⟩; have HPUT := Aside0.mk (HP.out.put ho i 0 HI.out (by decide) (by rw [← tk_upd n S i 0 HI.out false rfl]; exact ha)); have hm := Own.moves (M := fun t => t == 77) HP.out.alloc ho rfl HP.out.bq; have hsl := (hm.old _ _ _ _ HP.out.self rfl).trans HP.out.self; have hc3 : w1.cell? ⟨p, 3, none⟩ = some (.slice (some ⟨sq, 0, none⟩) n c) := (blk_cell hsl 3).trans rfl; have hst := (HP.out.states.moves hm rfl).cell i HI.out; have hst1 := hst.1; have hst2 := hst.2; clear hst hsl hm ha ho))
  go_end0
  exact ⟨rfl, ⟨a, q, kq, sq, c, HPUT.out.1⟩, HPUT.out.2⟩
end Go.Proofs.Ytdjpohmgljhhcaa.A
