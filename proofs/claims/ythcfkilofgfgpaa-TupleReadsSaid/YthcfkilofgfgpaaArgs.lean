/- An argument that is a slice of parts reads as a list of parts, whose texts are no longer than the reach. -/
import Derived.Test.YthcfkilofgfgpaaAx0
import Derived.Test.YthcfkilofgfgpaaRows
import Derived.Deep.Slices
import Derived.Deep.Fields
import Derived.ChangeSame
import Derived.SizedLaws
namespace Go.Proofs.Ythcfkilofgfgpaa.A
open Go.ChangeShapes Go.WideShapes Go.Deep
open Go.RowKit Go.Proofs.YthcfkilofgfgpaaW.PrintWords Go.Proofs.YthcfkilofgfgpaaW.PrintLast Go.Proofs.YthcfkilofgfgpaaW.PrintMore
set_option linter.unusedVariables false
section
variable {H : Type} {enc : TypeId × Value → H} {P : Program} {w : World} {base : Nat} {spare : Nat → Bool} {held : Bool}
theorem open_slice_fields {t e : TypeId} {fs : Array Field} {fuel : Nat} {cs : List Value} {x : DataW H × List MemPlace} (ht : P.underlying t = some (.slice e)) (he : P.underlying e = some (.struct fs))
    (hone : oneCellFields P fs = true) (hC : P.cellsOf e = fs.size) (h : DataW.trod enc P w base spare held fuel t cs = some x) :
    (cs = [.slice none 0 0] ∧ x = (.nil, [])) ∨
    ∃ (a : Addr) (len cap m : Nat) (D : Nat → DataW H) (Pl : Nat → List MemPlace), cs = [.slice (some a) len cap] ∧ len ≤ cap ∧ cap ≤ maxLen ∧ len ≤ m ∧
      x.1 = .slice ((List.range len).map D) ((List.range (m - len)).map fun j => D (len + j)) ∧
      ∀ i, i < m → ∃ (ys : List (DataW H × List MemPlace)) (n : Nat), D i = .agg (ys.map (·.1)) ∧ ys.length = fs.size ∧
        ∀ (j : Nat) (f : Field), fs[j]? = some f → ∃ (v : Value) (y : DataW H × List MemPlace), w.cell? (a.add (i * fs.size + j)) = some v ∧ ys[j]? = some y ∧ DataW.trod enc P w base spare held n f.type [v] = some y := by
  rcases open_slice ht h with h0 | ⟨a, len, cap, m, n, D, Pl, hcs, hb, hl, hm, hmm, hx, hi⟩
  · exact .inl h0
  · refine .inr ⟨a, len, cap, m, D, Pl, hcs, hl, hm, by rw [hmm]; split <;> omega, by rw [hx], fun i him => ?_⟩
    obtain ⟨cs', hc, ht'⟩ := hi i him
    rw [hC] at hc
    obtain ⟨ys, n', hn', hy, hlen, hyl, hf⟩ := DataW.trod_struct he ht'
    obtain ⟨_, hcl, hat⟩ := World.cells?_some hc
    simp only [Prod.mk.injEq] at hy
    refine ⟨ys, n', hy.1, hyl, fun j f hj => ?_⟩
    obtain ⟨ho, hk⟩ := hone_of hone j f hj
    have hjl : j < fs.size := (Array.getElem?_eq_some_iff.1 hj).1
    have hcell := hat j hjl
    have h1 := hf j f hj
    rw [ho, hk] at h1
    have hone' : (cs'.drop j).take 1 = [cs'[j]'(by omega)] := by
      rw [List.drop_eq_getElem_cons (by omega)]
      rfl
    rw [hone'] at h1
    have hv : cs'[j]? = some (cs'[j]'(by omega)) := List.getElem?_eq_getElem (by omega)
    have hys : ys[j]? = some (ys[j]'(by omega)) := List.getElem?_eq_getElem (by omega)
    refine ⟨_, _, ?_, hys, h1.trans hys⟩
    rw [← Go.Deep.add_add, hcell, hv]
end
theorem list_of {α : Type} (d : α) (n : Nat) (R : Nat → α → Prop) (h : ∀ i, i < n → ∃ x, R i x) : ∃ l : List α, l.length = n ∧ ∀ i p, l[i]? = some p → R i p := by
  induction n with
  | zero => exact ⟨[], rfl, fun i p hp => by simp at hp⟩
  | succ n ih =>
    obtain ⟨l, hl, hr⟩ := ih (fun i hi => h i (by omega))
    obtain ⟨x, hx⟩ := h n (by omega)
    refine ⟨l ++ [x], by simp [hl], fun i p hp => ?_⟩
    rcases Nat.lt_trichotomy i n with e | e | e
    · rw [List.getElem?_append_left (by omega)] at hp
      exact hr i p hp
    · subst e
      rw [List.getElem?_append_right (by omega), hl, Nat.sub_self] at hp
      simp at hp
      subst hp
      exact hx
    · rw [List.getElem?_append_right (by omega), hl] at hp
      have : i - n ≠ 0 := by omega
      obtain ⟨k, hk⟩ : ∃ k, i - n = k + 1 := ⟨i - n - 1, by omega⟩
      rw [hk] at hp
      simp at hp
theorem weights_all {H : Type} {P : Program} {e : TypeId} {ds : List (DataW H)} {d : DataW H} (hd : d ∈ ds) : ∀ n ∈ d.weights P e, n ∈ DataW.weightsAll P e ds := by
  induction ds with
  | nil => simp at hd
  | cons x r ih =>
    intro n hn
    simp only [DataW.weightsAll, List.mem_append]
    rcases List.mem_cons.1 hd with rfl | h
    · exact .inl hn
    · exact .inr (ih h n hn)
structure PartOk (p : S46) : Prop where
  kind : (Lit.int .i64 p.f0).wf = true
  num : (Lit.int .i64 p.f1).wf = true
  text : p.f2.size ≤ 140737488351232
structure PartsOk (l : List S46) : Prop where
  len : l.length ≤ 4398046510976
  each : ∀ p ∈ l, PartOk p
theorem open_parts {H : Type} {enc : TypeId × Value → H} {W : World} {base : Nat} {spare : Nat → Bool} {held : Bool} {a : Option Addr} {len cap : Nat} {d : DataW H} {ps : List MemPlace} {ts : List TypeId} {ds : List (DataW H)} {j : Nat}
    (hsz : (DataW.weightsEach Try.prog ts ds).all (· ≤ reachBytes) = true) (ht : ts[j]? = some 22) (hd : ds[j]? = some d)
    (h : DataW.Trod enc Try.prog W base spare held 22 (.slice a len cap) d ps) : ∃ l : List S46, len = l.length ∧ len ≤ cap ∧ Kd.C k46 W a l.length l ∧ PartsOk l := by
  obtain ⟨fuel, hf⟩ := h
  rcases open_slice_fields Try.underlying22 Try.underlying46 (by kernel_rfl) (by kernel_rfl) hf with ⟨hcs, _⟩ | ⟨x, l, c, m, D, Pl, hcs, hl, hm, hmm, hx, hi⟩
  · simp [Value.cells] at hcs
    obtain ⟨rfl, rfl, rfl⟩ := hcs
    exact ⟨[], rfl, Nat.le_refl _, ⟨rfl, by decide, fun hn => absurd hn (by decide)⟩, ⟨by decide, fun p hp => by simp at hp⟩⟩
  · simp [Value.cells] at hcs
    obtain ⟨rfl, rfl, rfl⟩ := hcs
    have hx' : d = .slice ((List.range len).map D) ((List.range (m - len)).map fun j => D (len + j)) := hx
    have hw : ∀ n ∈ d.weights Try.prog 22, n ≤ 140737488351232 := fun n hn => by
      have := List.all_eq_true.1 hsz _ (DataW.weights_mem_each ht hd n hn)
      exact (of_decide_eq_true this : n ≤ reachBytes)
    have hb : Try.prog.bytesOf 46 = 32 := by kernel_rfl
    have hlen : (len + (m - len)) * 32 ≤ 140737488351232 := by
      refine hw _ ?_
      rw [hx', DataW.weights, Try.underlying22]
      simp [hb]
    have hone : ∀ i, i < len → ∃ p : S46, PartOk p ∧ W.cell? (x.add (i * 3)) = some (.int .i64 p.f0) ∧ W.cell? (x.add (i * 3 + 1)) = some (.int .i64 p.f1) ∧ W.cell? (x.add (i * 3 + 2)) = some (.string p.f2) := by
      intro i him
      obtain ⟨ys, n, hD, hyl, hfs⟩ := hi i (by omega)
      obtain ⟨v0, y0, hc0, hy0, ht0⟩ := hfs 0 _ rfl
      obtain ⟨v1, y1, hc1, hy1, ht1⟩ := hfs 1 _ rfl
      obtain ⟨v2, y2, hc2, hy2, ht2⟩ := hfs 2 _ rfl
      obtain ⟨n0, e0, _, wf0⟩ := DataW.trod_int (k := .i64) (by kernel_rfl) ht0
      obtain ⟨n1, e1, _, wf1⟩ := DataW.trod_int (k := .i64) (by kernel_rfl) ht1
      obtain ⟨s, e2, ex, _⟩ := DataW.trod_string (by kernel_rfl) ht2
      simp only [List.cons.injEq, and_true] at e0 e1 e2
      subst e0 e1 e2
      refine ⟨⟨n0, n1, s⟩, ⟨wf0, wf1, ?_⟩, hc0, hc1, hc2⟩
      have hDi : D i = .agg [y0.1, y1.1, y2.1] := by
        rw [hD]
        have hl3 : ys.length = 3 := hyl
        match ys, hl3, hy0, hy1, hy2 with
        | [a, b, c], _, hy0, hy1, hy2 =>
          simp at hy0 hy1 hy2
          subst hy0 hy1 hy2
          rfl
      have hm1 : s.data.toList.length ∈ (D i).weights Try.prog 46 := by
        rw [hDi, DataW.weights, Try.underlying46]
        simp [DataW.weightsEach, ex, DataW.weights]
      have hm2 : s.data.toList.length ∈ d.weights Try.prog 22 := by
        rw [hx', DataW.weights, Try.underlying22]
        simp only [List.mem_cons, List.mem_append]
        exact .inr (.inl (weights_all (List.mem_map.2 ⟨i, List.mem_range.2 him, rfl⟩) _ hm1))
      have := hw _ hm2
      simpa using this
    obtain ⟨l, hll, hlr⟩ := list_of (⟨0, 0, ⟨#[]⟩⟩ : S46) len _ hone
    refine ⟨l, hll.symm, hl, ⟨rfl, by omega, fun _ => ⟨x, rfl, fun j p hj => ⟨_, rfl, k46_mk W p, fun i u hu => ?_⟩⟩⟩, ⟨by omega, fun p hp => ?_⟩⟩
    · obtain ⟨_, h0, h1, h2⟩ := hlr j p hj
      match i, hu with
      | 0, hu => cases hu; exact h0
      | 1, hu => cases hu; exact h1
      | 2, hu => cases hu; exact h2
    · obtain ⟨i, hi', hp'⟩ := List.mem_iff_getElem.1 hp
      exact (hlr i p (by rw [List.getElem?_eq_getElem hi', hp'])).1
end Go.Proofs.Ythcfkilofgfgpaa.A
