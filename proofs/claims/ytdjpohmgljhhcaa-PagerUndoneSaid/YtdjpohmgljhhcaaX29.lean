/- Arguments that are slices of acts, of ints, of bytes, to be read. -/
import Derived.Test.YtdjpohmgljhhcaaX28
import Derived.Test.YtdjpohmgljhhcaaRows
import Derived.Deep.Slices
import Derived.Deep.Fields
import Derived.ChangeSame
import Derived.ChangeSlices
import Derived.SizedLaws
import Derived.OpenShut
namespace Go.Proofs.Ytdjpohmgljhhcaa.A
open Go.ChangeShapes Go.WideShapes Go.Deep
open Go.RowKit Go.Proofs.YtdjpohmgljhhcaaW.PrintWords Go.Proofs.YtdjpohmgljhhcaaW.PrintLast Go.Proofs.YtdjpohmgljhhcaaW.PrintMore
set_option linter.unusedVariables false
section
variable {H : Type} {enc : TypeId × Value → H} {P : Program} {w : World} {base : Nat} {spare : Nat → Bool} {held : Bool}
theorem open_slice_fields {t e : TypeId} {fs : Array Field} {fuel : Nat} {cs : List Value} {x : DataW H × List MemPlace} (ht : P.underlying t = some (.slice e)) (he : P.underlying e = some (.struct fs))
    (hone : oneCellFields P fs = true) (hC : P.cellsOf e = fs.size) (h : DataW.trod enc P w base spare held fuel t cs = some x) :
    (cs = [.slice none 0 0] ∧ x = (.nil, [])) ∨
    ∃ (a : Addr) (len cap m : Nat) (D : Nat → DataW H) (Pl : Nat → List MemPlace), cs = [.slice (some a) len cap] ∧ len ≤ cap ∧ cap ≤ maxLen ∧ len ≤ m ∧
      x.1 = .slice ((List.range len).map D) ((List.range (m - len)).map fun j => D (len + j)) ∧
      ∀ i, i < m → ∃ (ys : List (DataW H × List MemPlace)) (n : Nat), D i = .agg (ys.map (·.1)) ∧ ys.length = fs.size ∧
        ∀ (j : Nat) (f : Field), fs[j]? = some f → ∃ (v : Value) (y : DataW H × List MemPlace), w.cell? (a.add (i * fs.size + j)) = some v ∧ ys[j]? = some y ∧ DataW.trod enc P w base spare held n f.type [v] = some y := by
  rcases open_slice ht h with h0 | ⟨a, len, cap, m, n, D, Pl, hcs, hb, hl, hm, hmm, hx, hi⟩
  · exact .inl h0
  · refine .inr ⟨a, len, cap, m, D, Pl, hcs, hl, hm, by rw [hmm]; split <;> omega, by rw [hx], fun i him => ?_⟩
    obtain ⟨cs', hc, ht'⟩ := hi i him
    rw [hC] at hc
    obtain ⟨ys, n', hn', hy, hlen, hyl, hf⟩ := DataW.trod_struct he ht'
    obtain ⟨_, hcl, hat⟩ := World.cells?_some hc
    simp only [Prod.mk.injEq] at hy
    refine ⟨ys, n', hy.1, hyl, fun j f hj => ?_⟩
    obtain ⟨ho, hk⟩ := hone_of hone j f hj
    have hjl : j < fs.size := (Array.getElem?_eq_some_iff.1 hj).1
    have hcell := hat j hjl
    have h1 := hf j f hj
    rw [ho, hk] at h1
    have hone' : (cs'.drop j).take 1 = [cs'[j]'(by omega)] := by
      rw [List.drop_eq_getElem_cons (by omega)]
      rfl
    rw [hone'] at h1
    have hv : cs'[j]? = some (cs'[j]'(by omega)) := List.getElem?_eq_getElem (by omega)
    have hys : ys[j]? = some (ys[j]'(by omega)) := List.getElem?_eq_getElem (by omega)
    refine ⟨_, _, ?_, hys, h1.trans hys⟩
    rw [← Go.Deep.add_add, hcell, hv]
end

theorem wf_lt {n : Int} (h : (Lit.int .i64 n).wf = true) : n < 9223372036854775808 := by
  have := bounds_i64 h
  omega
theorem cell_add {W : World} {x : Addr} {v v0 : Value} {n : Nat} (h0 : W.cell? x = some v0) (h : W.cell? (x.add n) = some v) : W.cell? ⟨x.block, x.off + n, none⟩ = some v := by
  have hs : x.spot = none := World.cell?_spot h0
  unfold Addr.add at h
  split at h
  · rename_i e
    subst e
    rw [Nat.add_zero]
    obtain ⟨g, o, s⟩ := x
    simp only at hs
    subst hs
    exact h
  · exact h
theorem nums_in {H : Type} {enc : TypeId × Value → H} {W : World} {base : Nat} {spare : Nat → Bool} {held : Bool} {fuel : Nat} {cs : List Value} {x : DataW H × List MemPlace}
    (h : DataW.trod enc Try.prog W base spare held fuel 31 cs = some x) : ∃ (B : Option Addr) (l c : Nat), cs = [.slice B l c] ∧ l < 9223372036854775808 ∧ l ≤ c ∧ IntsIn W W.heap.size B l := by
  have h63 : maxLen < 9223372036854775808 := by decide
  rcases open_ints (k := .i64) Try.underlying31 Try.underlying3 (by kernel_rfl) h with ⟨rfl, _⟩ | ⟨x, l, c, zs, rfl, _, hl, hm, hz, hx, hcell, _⟩
  · exact ⟨none, 0, 0, rfl, by decide, Nat.le_refl _, ⟨fun j hj => by omega⟩⟩
  · have hlz : l ≤ zs.length := by rw [hz]; split <;> omega
    refine ⟨_, l, c, rfl, by omega, hl, ⟨fun j hj => ?_⟩⟩
    have z0' : W.cell? x = some _ := hcell 0 (by omega)
    have hs : x.spot = none := World.cell?_spot z0'
    refine ⟨x.block, x.off, ?_, World.block_lt_of_cell? W x z0', _, cell_add z0' (hcell j (by omega))⟩
    obtain ⟨g, o, s⟩ := x
    simp only at hs
    subst hs
    rfl
theorem open_acts {H : Type} {enc : TypeId × Value → H} {W : World} {base : Nat} {spare : Nat → Bool} {held : Bool} {a : Option Addr} {len cap : Nat} {d : DataW H} {ps : List MemPlace}
    (h : DataW.Trod enc Try.prog W base spare held 22 (.slice a len cap) d ps) : len < 9223372036854775808 ∧ ActsIn W W.heap.size a len := by
  obtain ⟨fuel, hf⟩ := h
  rcases open_slice_fields Try.underlying22 Try.underlying36 (by kernel_rfl) (by kernel_rfl) hf with ⟨hcs, _⟩ | ⟨x, l, c, m, D, Pl, hcs, hl, hm, hmm, hx, hi⟩
  · simp [Value.cells] at hcs
    obtain ⟨rfl, rfl, rfl⟩ := hcs
    exact ⟨by decide, ⟨fun j hj => by omega⟩⟩
  · simp [Value.cells] at hcs
    obtain ⟨rfl, rfl, rfl⟩ := hcs
    have hone : ∀ i, i < len → ∃ (k j : Int) (s : ByteArray) (B : Option Addr) (l c : Nat), l < 9223372036854775808 ∧ l ≤ c ∧ IntsIn W W.heap.size B l ∧ W.cell? (x.add (i * 4)) = some (.int .i64 k) ∧ W.cell? (x.add (i * 4 + 1)) = some (.int .i64 j) ∧ W.cell? (x.add (i * 4 + 2)) = some (.string s) ∧ W.cell? (x.add (i * 4 + 3)) = some (.slice B l c) := by
      intro i him
      obtain ⟨ys, n, hD, hyl, hfs⟩ := hi i (by omega)
      obtain ⟨v0, y0, hc0, hy0, ht0⟩ := hfs 0 _ rfl
      obtain ⟨v1, y1, hc1, hy1, ht1⟩ := hfs 1 _ rfl
      obtain ⟨v2, y2, hc2, hy2, ht2⟩ := hfs 2 _ rfl
      obtain ⟨v3, y3, hc3, hy3, ht3⟩ := hfs 3 _ rfl
      obtain ⟨n0, e0, _, wf0⟩ := DataW.trod_int (k := .i64) (by kernel_rfl) ht0
      obtain ⟨n1, e1, _, wf1⟩ := DataW.trod_int (k := .i64) (by kernel_rfl) ht1
      obtain ⟨s2, e2, _, _⟩ := DataW.trod_string (by kernel_rfl) ht2
      obtain ⟨B, l, c, e3, b1, b2, b3⟩ := nums_in ht3
      simp only [List.cons.injEq, and_true] at e0 e1 e2 e3
      subst e0 e1 e2 e3
      exact ⟨n0, n1, s2, B, l, c, b1, b2, b3, hc0, hc1, hc2, hc3⟩
    have h63 : maxLen < 9223372036854775808 := by decide
    refine ⟨by omega, ⟨fun j hj => ?_⟩⟩
    obtain ⟨_, _, _, _, _, _, _, _, _, z0, _⟩ := hone 0 (by omega)
    obtain ⟨n0, n1, s2, B, l, c, b1, b2, b3, c0, c1, c2, c3⟩ := hone j hj
    have z0' : W.cell? x = some _ := z0
    have hs : x.spot = none := World.cell?_spot z0'
    refine ⟨x.block, x.off, ?_, World.block_lt_of_cell? W x z0', n0, n1, s2, B, l, c, b1, b2, b3, ?_⟩
    · obtain ⟨g, o, s⟩ := x
      simp only at hs
      subst hs
      rfl
    · have d0 := cell_add z0' c0
      have d1 := cell_add z0' c1
      have d2 := cell_add z0' c2
      have d3 := cell_add z0' c3
      intro k v hv
      match k, hv with
      | 0, hv => simp only [List.getElem?_cons_zero, Option.some.injEq] at hv; subst hv; exact d0
      | 1, hv => simp only [List.getElem?_cons_succ, List.getElem?_cons_zero, Option.some.injEq] at hv; subst hv; rw [Nat.add_assoc]; exact d1
      | 2, hv => simp only [List.getElem?_cons_succ, List.getElem?_cons_zero, Option.some.injEq] at hv; subst hv; rw [Nat.add_assoc]; exact d2
      | 3, hv => simp only [List.getElem?_cons_succ, List.getElem?_cons_zero, Option.some.injEq] at hv; subst hv; rw [Nat.add_assoc]; exact d3
      | k + 4, hv => simp at hv
end Go.Proofs.Ytdjpohmgljhhcaa.A
