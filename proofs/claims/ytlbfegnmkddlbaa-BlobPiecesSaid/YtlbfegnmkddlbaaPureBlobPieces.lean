/- What Piece tells of the chunks that Need tells is what stands there in the body; one chunk less has not all of it. -/
import Derived.Test.YtlbfegnmkddlbaaN2
import Derived.Test.YtlbfegnmkddlbaaAx4
namespace Go.Proofs.Ytlbfegnmkddlbaa.A
open Go.RowKit Go.Proofs.YtlbfegnmkddlbaaW.PrintWords Go.Proofs.YtlbfegnmkddlbaaW.PrintLast Go.Proofs.YtlbfegnmkddlbaaW.PrintMore
set_option linter.unusedVariables false
set_option linter.unusedSimpArgs false
/-- How the chunks of a piece stand. -/
theorem chunk_facts (F M q c z N : Nat) (hq : F / 160 = q) (hM0 : 0 < M) (hz : F + M ≤ z) (hc : q + c = (F + M - 1) / 160 + 1) (hN : N = (z + 159) / 160) : q + c ≤ N ∧ F + M ≤ 160 * (q + c) ∧ 160 * (q + c) ≤ F + M + 159 ∧ 160 * q ≤ F ∧ F < 160 * q + 160 := by
  have e1 : (F + M - 1) / 160 + 1 = (F + M + 159) / 160 := by rw [show F + M + 159 = (F + M - 1) + 160 by omega, Nat.add_div_right _ (by decide)]
  have h1 : q + c ≤ N := by
    rw [hc, hN, e1]
    exact Nat.div_le_div_right (by omega)
  refine ⟨h1, ?_, ?_, ?_, ?_⟩
  · clear h1 hN; omega
  · clear h1 hN; omega
  · omega
  · omega
/-- One chunk less. -/
theorem less_ev (s : ByteArray) (hs : s.size ≤ 2560) (F n q c M : Nat) (hq : F / 160 = q) (hF : F ≤ s.size) (hn : (n : Int) ≤ 9223372036854775807) (hM : M = min n (s.size - F)) (hM0 : 0 < M) (hc : q + c = (F + M - 1) / 160 + 1) (hc0 : 0 < c) :
    Ev (fun k => ambrylaw19_BlobPieces.j1 k (F : Int) (n : Int) (chunksB s (countB s)) (q : Int) (c : Int) (s.extract F (F + M)) false) true := by
  have hz : F + M ≤ s.size := by omega
  obtain ⟨hA, hB, hC, hD, hE⟩ := chunk_facts F M q c s.size (countB s) hq hM0 hz hc rfl
  have hA1 : F / 160 + (c - 1) ≤ countB s := by rw [hq]; omega
  have hB1 : F ≤ 160 * (F / 160 + (c - 1)) ∨ c = 1 := by rw [hq]; omega
  have hp' : c ≠ 1 → _ := fun hne => piece_part s hs F n (c - 1) hA1 (hB1.resolve_right hne) hF hn
  rw [hq] at hp'
  clear hc hA1 hB1 hq
  have hA2 : q + (c - 1) ≤ countB s := by omega
  have hpl0 := partB_lens s q (c - 1) hA2
  generalize hN' : countB s = N at *
  by_cases h1 : c = 1
  · exact Ev.step (f := fun k => (ambrylaw19_lives.f k).bind fun t => some t) (fun k => by rw [ambrylaw19_BlobPieces.j1, if_neg (by decide), if_pos (by omega)]) lives_then
  have e1 : Aside0 (wrap64 (wrap64 ((q : Int) + (c : Int)) - 1) = ((q + (c - 1) : Nat) : Int)) := ⟨by
    rw [wrap_ok ((q : Int) + (c : Int)) (by omega) (by omega), wrap_ok _ (by omega) (by omega)]
    omega⟩
  have hl : (chunksB s N).length = N := by simp [chunksB]
  have e2 : ((chunksB s N).take ((q + (c - 1) : Nat) : Int).toNat).drop (q : Int).toNat = partB s q (c - 1) := by
    have a0 : q + (c - 1) - q = c - 1 := by omega
    rw [Int.toNat_natCast, Int.toNat_natCast, chunks_part s N q (q + (c - 1)) hA2, a0]
  have p1 : (0 : Int) ≤ (q : Int) := by omega
  have p2 : (q : Int) ≤ ((q + (c - 1) : Nat) : Int) := by omega
  have p3 : ((q + (c - 1) : Nat) : Int) ≤ ((chunksB s N).length : Int) := by rw [hl]; omega
  have hpl : lensB (partB s q (c - 1)) ≤ 140737488355328 := by rw [hpl0]; omega
  have hlen : (partB s q (c - 1)).length ≤ 4398046510976 := by rw [partB_length]; omega
  have hp := hp' h1
  have a1 : F + min n (min (160 * (q + (c - 1))) s.size - F) = 160 * (q + (c - 1)) := by omega
  rw [a1] at hp
  have hsz : (s.extract F (160 * (q + (c - 1)))).size = 160 * (q + (c - 1)) - F := by rw [ByteArray.size_extract]; omega
  have hsz2 : (s.extract F (F + M)).size = M := by rw [ByteArray.size_extract]; omega
  have q1 : ((s.extract F (160 * (q + (c - 1)))).size : Int) < ((s.extract F (F + M)).size : Int) := by rw [hsz, hsz2]; omega
  have q2 : (s.extract F (160 * (q + (c - 1)))).toList = ((s.extract F (F + M)).extract 0 (((s.extract F (160 * (q + (c - 1)))).size : Int) : Int).toNat).toList := by
    rw [Int.toNat_natCast, hsz, ByteArray.extract_extract]
    have b1 : min (F + (160 * (q + (c - 1)) - F)) (F + M) = 160 * (q + (c - 1)) := by omega
    rw [b1]
    rfl
  refine Ev.step (f := fun k => (blob_Piece.f k (partB s q (c - 1)) (q : Int) (F : Int) (n : Int)).bind fun bt178 => (if bt178.2 = 0 then (if (bt178.1.size : Int) < ((s.extract F (F + M)).size : Int) then (if 0 ≤ (bt178.1.size : Int) then (if (bt178.1.size : Int) ≤ ((s.extract F (F + M)).size : Int) then (if bt178.1.toList = ((s.extract F (F + M)).extract 0 ((bt178.1.size : Int) : Int).toNat).toList then ((ambrylaw19_lives.f k).bind fun t180 => (some t180)) else (some false)) else (none)) else (none)) else (some false)) else (some false))) (fun k => by rw [ambrylaw19_BlobPieces.j1, if_neg (by decide), if_neg (by omega), if_pos p1, e1.out, if_pos p2, if_pos p3, e2]) ?_
  refine Ev.bind (ev_val (piece_ev _ _ _ _ hlen hpl (by omega)) hp) ?_
  exact Ev.congr (f := fun k => (ambrylaw19_lives.f k).bind fun t => some t) (fun k => by rw [if_pos rfl, if_pos q1, if_pos (Int.natCast_nonneg _), if_pos (Int.le_of_lt q1), if_pos q2]) lives_then
theorem here_ev (s : ByteArray) (hs : s.size ≤ 2560) (F n : Nat) (hF : F ≤ s.size) (hn : (n : Int) ≤ 9223372036854775807) (M q c : Nat) (hM : M = min n (s.size - F)) (h : (M = 0 ∧ q = 0 ∧ c = 0) ∨ (0 < M ∧ F / 160 = q ∧ q + c = (F + M - 1) / 160 + 1 ∧ 0 < c)) :
    Ev (fun k => ambrylaw19_BlobPieces.j0 k s (F : Int) (n : Int) (chunksB s (countB s)) (q : Int) (c : Int) false) true := by
  have e0 : Aside0 (mn (n : Int) (wrap64 ((s.size : Int) - (F : Int))) = (M : Int)) := ⟨by
    rw [wrap_ok _ (by omega) (by omega)]
    have := mn_is (n : Int) ((s.size : Int) - (F : Int))
    omega⟩
  have e1 : Aside0 (wrap64 ((F : Int) + (M : Int)) = ((F + M : Nat) : Int)) := ⟨by rw [wrap_ok _ (by omega) (by omega)]; omega⟩
  have p1 : (0 : Int) ≤ (F : Int) := by omega
  have p2 : (F : Int) ≤ ((F + M : Nat) : Int) := by omega
  have p3 : ((F + M : Nat) : Int) ≤ (s.size : Int) := by omega
  rcases h with ⟨rfl, rfl, rfl⟩ | ⟨hM0, hq, hc, hc0⟩
  · refine Ev.step (f := fun k => (ambrylaw19_lives.f k).bind fun t => some t) (fun k => ?_) lives_then
    have e2 : (s.extract (F : Int).toNat ((F + 0 : Nat) : Int).toNat).toList = [] := by
      rw [Int.toNat_natCast, Int.toNat_natCast, toList_nil]
      exact ByteArray.extract_eq_empty_iff.2 (by omega)
    rw [ambrylaw19_BlobPieces.j0, if_neg (by decide), if_pos p1, e0.out, e1.out, if_pos p2, if_pos p3, if_pos (show ((0 : Nat) : Int) = 0 from rfl), if_pos e2, if_pos (show ((0 : Nat) : Int) = 0 from rfl)]
  · have hz : F + M ≤ s.size := by omega
    obtain ⟨hA, hB, hC, hD, hE⟩ := chunk_facts F M q c s.size (countB s) hq hM0 hz hc rfl
    have hless := less_ev s hs F n q c M hq hF hn hM hM0 hc hc0
    have hA1 : F / 160 + c ≤ countB s := by rw [hq]; exact hA
    have hB1 : F ≤ 160 * (F / 160 + c) := by rw [hq]; omega
    have hp := piece_part s hs F n c hA1 hB1 hF hn
    rw [hq] at hp
    have hpl0 := partB_lens s q c hA
    clear hc hA1 hB1 hq
    generalize hN' : countB s = N at *
    have hl : (chunksB s N).length = N := by simp [chunksB]
    have e2 : Aside0 (wrap64 ((q : Int) + (c : Int)) = ((q + c : Nat) : Int)) := ⟨by rw [wrap_ok _ (by omega) (by omega)]; omega⟩
    have e3 : ((chunksB s N).take ((q + c : Nat) : Int).toNat).drop (q : Int).toNat = partB s q c := by
      have a0 : q + c - q = c := by omega
      rw [Int.toNat_natCast, Int.toNat_natCast, chunks_part s N q (q + c) hA, a0]
    have q1 : (0 : Int) ≤ (q : Int) := by omega
    have q2 : (q : Int) ≤ ((q + c : Nat) : Int) := by omega
    have q3 : ((q + c : Nat) : Int) ≤ ((chunksB s N).length : Int) := by rw [hl]; omega
    have e4 : s.extract (F : Int).toNat ((F + M : Nat) : Int).toNat = s.extract F (F + M) := by rw [Int.toNat_natCast, Int.toNat_natCast]
    have hpl : lensB (partB s q c) ≤ 140737488355328 := by rw [hpl0]; omega
    have hlen : (partB s q c).length ≤ 4398046510976 := by rw [partB_length]; omega
    have a1 : F + min n (min (160 * (q + c)) s.size - F) = F + M := by omega
    rw [a1] at hp
    refine Ev.step (f := fun k => (blob_Piece.f k (partB s q c) (q : Int) (F : Int) (n : Int)).bind fun bt171 => (if bt171.1.toList = (s.extract F (F + M)).toList then (ambrylaw19_BlobPieces.j1 k (F : Int) (n : Int) (chunksB s N) (q : Int) (c : Int) (s.extract F (F + M)) (bt171.2 != 0)) else (ambrylaw19_BlobPieces.j1 k (F : Int) (n : Int) (chunksB s N) (q : Int) (c : Int) (s.extract F (F + M)) true))) (fun k => by rw [ambrylaw19_BlobPieces.j0, if_neg (by decide), if_pos p1, e0.out, e1.out, if_pos p2, if_pos p3, if_neg (by omega), if_pos q1, e2.out, if_pos q2, if_pos q3, e3, e4]) ?_
    refine Ev.bind (ev_val (piece_ev _ _ _ _ hlen hpl (by omega)) hp) ?_
    refine Ev.congr (f := fun k => ambrylaw19_BlobPieces.j1 k (F : Int) (n : Int) (chunksB s N) (q : Int) (c : Int) (s.extract F (F + M)) false) (fun k => by rw [if_pos rfl]; rfl) ?_
    exact hless
theorem pureBlobPieces (s : ByteArray) (f n : Int) (hs : s.size ≤ 140737488351232) (hf : (Lit.int .i64 f).wf = true) (hn : (Lit.int .i64 n).wf = true) : ∃ k, ambrylaw19_BlobPieces.f k s f n = some true := by
  have hf' : -9223372036854775808 ≤ f ∧ f ≤ 9223372036854775807 := by simpa [Lit.wf, IntKind.min, IntKind.max, IntKind.bits, IntKind.signed] using hf
  have hn' : -9223372036854775808 ≤ n ∧ n ≤ 9223372036854775807 := by simpa [Lit.wf, IntKind.min, IntKind.max, IntKind.bits, IntKind.signed] using hn
  refine Ev.rounds (r := true) ?_
  unfold ambrylaw19_BlobPieces.f
  refine Ev.bind (cut_ev s hs) ?_
  by_cases h : s.size ≤ 2560
  case neg =>
    have e : CutR s = ([], 5) := by unfold CutR; rw [if_neg h]
    rw [e]
    exact Ev.congr (f := fun k => (ambrylaw19_lives.f k).bind fun t => some t) (fun k => by rw [if_neg (by decide)]) lives_then
  have e : CutR s = (chunksB s (countB s), 0) := by unfold CutR; rw [if_pos h]
  rw [e]
  refine Ev.congr (f := fun k => (blob_Need.f k (s.size : Int) f n).bind fun bt160 => (if bt160.2.2 = 0 then (if bt160.1 < 0 then (ambrylaw19_BlobPieces.j0 k s f n (chunksB s (countB s)) bt160.1 bt160.2.1 true) else (if bt160.2.1 < 0 then (ambrylaw19_BlobPieces.j0 k s f n (chunksB s (countB s)) bt160.1 bt160.2.1 true) else (if bt160.1 > ((chunksB s (countB s)).length : Int) then (ambrylaw19_BlobPieces.j0 k s f n (chunksB s (countB s)) bt160.1 bt160.2.1 true) else (ambrylaw19_BlobPieces.j0 k s f n (chunksB s (countB s)) bt160.1 bt160.2.1 (decide (bt160.2.1 > (wrap64 (((chunksB s (countB s)).length : Int) - bt160.1)))))))) else (if bt160.2.2 = 2 then (if f < 0 then ((ambrylaw19_lives.f k).bind fun t163 => (some t163)) else (if f > (s.size : Int) then ((ambrylaw19_lives.f k).bind fun t164 => (some t164)) else (if n < 0 then ((ambrylaw19_lives.f k).bind fun t165 => (some t165)) else (some false)))) else (some false)))) (fun k => by rw [if_pos rfl]) ?_
  refine Ev.bind (need_ev _ _ _) ?_
  by_cases hg : 0 ≤ (s.size : Int) ∧ (s.size : Int) ≤ 2560 ∧ 0 ≤ f ∧ f ≤ (s.size : Int) ∧ 0 ≤ n
  case neg =>
    have e2 : NeedR (s.size : Int) f n = (0, 0, 2) := by unfold NeedR; rw [if_neg hg]
    rw [e2]
    refine Ev.congr (f := fun k => (ambrylaw19_lives.f k).bind fun t => some t) (fun k => ?_) lives_then
    rw [if_neg (by decide), if_pos rfl]
    by_cases h1 : f < 0
    · rw [if_pos h1]
    by_cases h2 : f > (s.size : Int)
    · rw [if_neg h1, if_pos h2]
    · rw [if_neg h1, if_neg h2, if_pos (by omega)]
  obtain ⟨F, rfl⟩ : ∃ F : Nat, f = (F : Int) := ⟨f.toNat, by omega⟩
  obtain ⟨m, rfl⟩ : ∃ m : Nat, n = (m : Int) := ⟨n.toNat, by omega⟩
  have hF : F ≤ s.size := by omega
  have hm := mn_is (m : Int) ((s.size : Int) - (F : Int))
  have hNs : (chunksB s (countB s)).length = (s.size + 159) / 160 := by simp [chunksB, countB]
  obtain ⟨M, q, c, hM, hR, hc, hfit⟩ : ∃ M q c : Nat, M = min m (s.size - F) ∧ NeedR (s.size : Int) (F : Int) (m : Int) = ((q : Int), (c : Int), 0) ∧ ((M = 0 ∧ q = 0 ∧ c = 0) ∨ (0 < M ∧ F / 160 = q ∧ q + c = (F + M - 1) / 160 + 1 ∧ 0 < c)) ∧ q + c ≤ (s.size + 159) / 160 := by
    unfold NeedR
    rw [if_pos hg]
    by_cases hz : mn (m : Int) ((s.size : Int) - (F : Int)) = 0
    · rw [if_pos hz]
      exact ⟨0, 0, 0, by omega, rfl, .inl ⟨rfl, rfl, rfl⟩, by omega⟩
    · rw [if_neg hz]
      obtain ⟨M, hM⟩ : ∃ M : Nat, mn (m : Int) ((s.size : Int) - (F : Int)) = (M : Int) := ⟨(mn (m : Int) ((s.size : Int) - (F : Int))).toNat, by omega⟩
      rw [hM]
      refine ⟨M, F / 160, (F + M - 1) / 160 - F / 160 + 1, by omega, ?_, .inr ⟨by omega, rfl, by omega, by omega⟩, by omega⟩
      simp only [Prod.mk.injEq, and_true]
      refine ⟨by omega, by omega⟩
  rw [hR]
  dsimp only
  refine Ev.congr (f := fun k => ambrylaw19_BlobPieces.j0 k s (F : Int) (m : Int) (chunksB s (countB s)) (q : Int) (c : Int) false) (fun k => ?_) (here_ev s h F m hF (by omega) M q c hM hc)
  rw [if_pos rfl, if_neg (by omega), if_neg (by omega), hNs, if_neg (by omega), wrap_ok _ (by omega) (by omega), decide_eq_false (by omega)]
end Go.Proofs.Ytlbfegnmkddlbaa.A
namespace Go.Proofs.Ytlbfegnmkddlbaa.Pure
open Go.Proofs.Ytlbfegnmkddlbaa.A
theorem BlobPieces : ambrylaw19_BlobPieces.Pure := fun s f n hs hf hn => pureBlobPieces s f n hs hf hn
end Go.Proofs.Ytlbfegnmkddlbaa.Pure
