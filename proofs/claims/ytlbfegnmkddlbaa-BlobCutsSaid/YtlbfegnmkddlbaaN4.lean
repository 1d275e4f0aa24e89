/- A body is cut into the chunks, and texts are the body of a size and tag, that the document says; what was cut is joined as it was. -/
import Derived.Test.YtlbfegnmkddlbaaN3
import Derived.Test.YtlbfegnmkddlbaaBB
namespace Go.Proofs.Ytlbfegnmkddlbaa.A
open Go.RowKit Go.Proofs.YtlbfegnmkddlbaaW.PrintWords Go.Proofs.YtlbfegnmkddlbaaW.PrintLast Go.Proofs.YtlbfegnmkddlbaaW.PrintMore
set_option linter.unusedVariables false
open Classical in
noncomputable def JoinR (l : List ByteArray) (size : Int) (t : Int × Int) : ByteArray × Int := if CheckR l size t = 0 then (JoinB l, 0) else (⟨#[]⟩, 4)
theorem checkR_is (l : List ByteArray) (size : Int) (t : Int × Int) : CheckR l size t = 0 ∨ CheckR l size t = 4 := by
  unfold CheckR
  split
  · exact .inl rfl
  · exact .inr rfl
theorem join_ev (l : List ByteArray) (hf : Few l) (size t0 t1 : Int) : Ev (fun k => blob_Join.f k l size t0 t1) (JoinR l size (t0, t1)) := by
  have hlens := few_lens l hf
  have hj : strings_Join.f l (⟨#[]⟩ : ByteArray) = some (JoinB l) := by
    unfold strings_Join.f
    rw [if_pos ⟨rfl, by omega⟩]
    rfl
  refine Ev.congr (fun k => rfl) (Ev.bind (check_ev l hf size t0 t1) ?_)
  unfold JoinR
  rcases checkR_is l size (t0, t1) with h | h
  · simp only [h, if_true, hj, Option.bind_some]
    exact Ev.now _
  · simp only [h]
    rw [if_neg (by decide)]
    simp only [show ¬ (4 : Int) = 0 by decide, if_false]
    exact Ev.now _
theorem rjoin_ev (l : List ByteArray) (hf : Few l) (size t0 t1 : Int) : Ev (fun k => ambryref19_Join.f k l size t0 t1) (JoinR l size (t0, t1)) := by
  have hn := hf.1
  refine Ev.congr (fun k => rfl) (Ev.bind (rcheck_ev l hf size t0 t1) ?_)
  unfold JoinR
  rcases checkR_is l size (t0, t1) with h | h
  · simp only [h, if_true]
    have hF : l.length ≤ 16 ∧ Formed l := by
      unfold CheckR at h
      split at h
      · rename_i q; exact ⟨q.1, q.2.1⟩
      · cases h
    refine Ev.bind (rwhole_ev l (by omega) hf.2) ?_
    rw [(whole_formed l hF.1 hF.2).1]
    exact Ev.now _
  · simp only [h]
    rw [if_neg (by decide)]
    simp only [show ¬ (4 : Int) = 0 by decide, if_false]
    exact Ev.now _
theorem chunks_few (s : ByteArray) (hs : s.size ≤ 2560) : Few (chunksB s (countB s)) ∧ (chunksB s (countB s)).length ≤ 16 ∧ Formed (chunksB s (countB s)) ∧ JoinB (chunksB s (countB s)) = s := by
  obtain ⟨h16, hF, hj⟩ := cut_same s _ hs rfl
  exact ⟨⟨by omega, fun j h => by have := (hF j h).2.1; omega⟩, h16, hF, hj⟩
theorem blobBack_walk (body : ByteArray) (size : Int) (hs : body.size ≤ 140737488351232) (w : World) :
    Calls Try.prog 6 #[.string body, .int .i64 size] w fun e w' => e = .returned (.bool true) ∧ Below w.heap.size w w' := by
  obtain ⟨K1, h1⟩ := cut_ev body hs
  obtain ⟨K2, h2⟩ := lives_ev
  by_cases hb : body.size ≤ 2560
  · obtain ⟨hf, h16, hF, hj⟩ := chunks_few body hb
    obtain ⟨l, hl⟩ : ∃ l, chunksB body (countB body) = l := ⟨_, rfl⟩
    have hcut : CutR body = (l, 0) := by unfold CutR; rw [if_pos hb, hl]
    rw [hl] at hf h16 hF hj
    have hlen : lensB l = body.size := by rw [← JoinB_size, hj]
    obtain ⟨⟨t0, t1⟩, ht⟩ : ∃ t, tagOf (bytesOf body) = t := ⟨_, rfl⟩
    obtain ⟨K3, h3⟩ := join_ev l hf (body.size : Int) t0 t1
    obtain ⟨K4, h4⟩ := check_ev l hf (body.size : Int) t0 t1
    obtain ⟨K5, h5⟩ := join_ev l hf size t0 t1
    have c1 : CheckR l (body.size : Int) (t0, t1) = 0 := by
      unfold CheckR
      rw [if_pos ⟨h16, hF, by omega, by rw [hj, ht]⟩]
    have c2 : size ≠ (body.size : Int) → CheckR l size (t0, t1) = 4 := fun hne => by
      unfold CheckR
      rw [if_neg (fun h => hne (by have := h.2.2.1; omega))]
    have hk1 : K1 ≤ K1 + K2 + K3 + K4 + K5 := by omega
    have hk2 : K2 ≤ K1 + K2 + K3 + K4 + K5 := by omega
    have hk3 : K3 ≤ K1 + K2 + K3 + K4 + K5 := by omega
    have hk4 : K4 ≤ K1 + K2 + K3 + K4 + K5 := by omega
    have hk5 : K5 ≤ K1 + K2 + K3 + K4 + K5 := by omega
    refine back_small (K1 + K2 + K3 + K4 + K5) body size hb l ((h1 _ hk1).trans (by rw [hcut])) t0 t1 ?_ ((h3 _ hk3).trans ?_) ((h4 _ hk4).trans (by rw [c1])) (fun hne => (h5 _ hk5).trans ?_) (h2 _ hk2) w
    · rw [tag_Of_is (bytesOf body) (bytes_are _) (by rw [bytesOf_length]; omega), ht]
    · unfold JoinR
      rw [if_pos c1, hj]
    · unfold JoinR
      rw [if_neg (by rw [c2 hne]; decide)]
  · have hk1 : K1 ≤ K1 + K2 := by omega
    have hk2 : K2 ≤ K1 + K2 := by omega
    refine back_big (K1 + K2) body size (by omega) ((h1 _ hk1).trans ?_) (h2 _ hk2) w
    unfold CutR
    rw [if_neg hb]
end Go.Proofs.Ytlbfegnmkddlbaa.A
