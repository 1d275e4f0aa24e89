/- An argument that is a slice of strings reads as a list of strings, none longer than the reach. -/
import Derived.Test.YtlbfegnmkddlbaaAx0
import Derived.Test.YtlbfegnmkddlbaaRows
import Derived.SliceStrings
import Derived.ChangeSame
import Derived.SizedLaws
namespace Go.Proofs.Ytlbfegnmkddlbaa.A
open Go.ChangeShapes Go.WideShapes
open Go.RowKit Go.Proofs.YtlbfegnmkddlbaaW.PrintWords Go.Proofs.YtlbfegnmkddlbaaW.PrintLast Go.Proofs.YtlbfegnmkddlbaaW.PrintMore
set_option linter.unusedVariables false
structure TextsOk (l : List ByteArray) : Prop where
  len : l.length ≤ 8796093022208
  each : ∀ s ∈ l, s.size ≤ 140737488351232
theorem weights_all {H : Type} {P : Program} {e : TypeId} {ds : List (DataW H)} {d : DataW H} (hd : d ∈ ds) : ∀ n ∈ d.weights P e, n ∈ DataW.weightsAll P e ds := by
  induction ds with
  | nil => simp at hd
  | cons x r ih =>
    intro n hn
    simp only [DataW.weightsAll, List.mem_append]
    rcases List.mem_cons.1 hd with rfl | h
    · exact .inl hn
    · exact .inr (ih h n hn)
theorem open_texts {H : Type} {enc : TypeId × Value → H} {W : World} {base : Nat} {spare : Nat → Bool} {held : Bool} {a : Option Addr} {len cap : Nat} {d : DataW H} {ps : List MemPlace} {ts : List TypeId} {ds : List (DataW H)} {j : Nat}
    (hsz : (DataW.weightsEach Try.prog ts ds).all (· ≤ reachBytes) = true) (ht : ts[j]? = some 22) (hd : ds[j]? = some d)
    (h : DataW.Trod enc Try.prog W base spare held 22 (.slice a len cap) d ps) : ∃ l : List ByteArray, len = l.length ∧ len ≤ cap ∧ Kd.C Kd.string W a l.length l ∧ TextsOk l := by
  obtain ⟨fuel, hf⟩ := h
  rcases open_strings Try.underlying22 Try.underlying9 (by kernel_rfl) hf with ⟨hcs, _⟩ | ⟨x, l, c, ss, hcs, _, hl, hm, hz, hx, hcell, hs⟩
  · simp [Value.cells] at hcs
    obtain ⟨rfl, rfl, rfl⟩ := hcs
    exact ⟨[], rfl, Nat.le_refl _, ⟨rfl, by decide, fun hn => absurd hn (by decide)⟩, ⟨by decide, fun p hp => by simp at hp⟩⟩
  · simp [Value.cells] at hcs
    obtain ⟨rfl, rfl, rfl⟩ := hcs
    have hx' : d = .slice (strs (ss.take len)) (strs (ss.drop len)) := congrArg Prod.fst hx
    have hw : ∀ n ∈ d.weights Try.prog 22, n ≤ 140737488351232 := fun n hn => by
      have := List.all_eq_true.1 hsz _ (DataW.weights_mem_each ht hd n hn)
      exact (of_decide_eq_true this : n ≤ reachBytes)
    have hb : Try.prog.bytesOf 9 = 16 := by kernel_rfl
    have hlss : len ≤ ss.length := by rw [hz]; split <;> omega
    have hlen : (len + (ss.length - len)) * 16 ≤ 140737488351232 := by
      refine hw _ ?_
      rw [hx', DataW.weights, Try.underlying22]
      have e : min len ss.length = len := by omega
      simp [hb, strs, e]
    have htl : (ss.take len).length = len := by rw [List.length_take]; omega
    refine ⟨ss.take len, htl.symm, hl, ?_, ⟨by rw [htl]; omega, fun s hsm => ?_⟩⟩
    · rw [htl]
      refine Kd.C_of_reads (d := ByteArray.empty) ⟨htl, by omega, fun hn => ⟨x, rfl, fun i hi => ?_⟩⟩
      rw [hcell i (by omega)]
      congr 2
      rw [List.getD_eq_getElem?_getD, List.getD_eq_getElem?_getD, List.getElem?_take_of_lt hi]
    · have hm1 : s.data.toList.length ∈ (DataW.lit (.string s.data.toList) : DataW H).weights Try.prog 9 := by
        simp [DataW.weights]
      have hm2 : s.data.toList.length ∈ d.weights Try.prog 22 := by
        rw [hx', DataW.weights, Try.underlying22]
        simp only [List.mem_cons, List.mem_append]
        exact .inr (.inl (weights_all (List.mem_map.2 ⟨s, hsm, rfl⟩) _ hm1))
      have := hw _ hm2
      simpa using this
end Go.Proofs.Ytlbfegnmkddlbaa.A
