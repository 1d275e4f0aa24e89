/- Pieces of the chunks of a body: what stands there in the body. -/
import Derived.Test.YtlbfegnmkddlbaaN1
namespace Go.Proofs.Ytlbfegnmkddlbaa.A
open Go.RowKit Go.Proofs.YtlbfegnmkddlbaaW.PrintWords Go.Proofs.YtlbfegnmkddlbaaW.PrintLast Go.Proofs.YtlbfegnmkddlbaaW.PrintMore
set_option linter.unusedVariables false
set_option linter.unusedSimpArgs false
/-- The chunks from a on, c of them. -/
def partB (s : ByteArray) (a c : Nat) : List ByteArray := (List.range' a c).map (chunkB s)
theorem chunks_part (s : ByteArray) (N a b : Nat) (h : b ≤ N) : ((chunksB s N).take b).drop a = partB s a (b - a) := by
  unfold chunksB partB
  rw [← List.map_take, ← List.map_drop, List.take_range, Nat.min_eq_left h, List.range_eq_range', List.drop_range']
  congr 2
  omega
theorem partB_length (s : ByteArray) (a c : Nat) : (partB s a c).length = c := by simp [partB]
theorem partB_at (s : ByteArray) (a c j : Nat) (h : j < (partB s a c).length) : (partB s a c)[j] = chunkB s (a + j) := by simp [partB]
theorem partB_formed (s : ByteArray) (a c : Nat) (h : a + c ≤ countB s) : Formed (partB s a c) := by
  intro j hj
  have hl := partB_length s a c
  have hc : countB s = (s.size + 159) / 160 := rfl
  rw [partB_at, chunkB_size]
  generalize countB s = N at *
  rw [hl] at hj ⊢
  omega
theorem partB_join (s : ByteArray) (a : Nat) : ∀ (c : Nat), a + c ≤ countB s → JoinB (partB s a c) = s.extract (160 * a) (min (160 * (a + c)) s.size)
  | 0, h => by
    have e : s.extract (160 * a) (min (160 * (a + 0)) s.size) = ByteArray.empty := ByteArray.extract_eq_empty_iff.2 (by omega)
    rw [e]
    rfl
  | c + 1, h => by
    have ih := partB_join s a c (by omega)
    have hc : countB s = (s.size + 159) / 160 := rfl
    have hlt : 160 * (a + c) < s.size := by
      generalize countB s = N at *
      omega
    have e1 : JoinB (partB s a (c + 1)) = JoinB (partB s a c) ++ chunkB s (a + c) := by
      apply ByteArray.ext
      apply Array.toList_inj.1
      rw [ByteArray.toList_data_append]
      simp [JoinB, partB, catB, List.range'_concat]
    rw [e1, ih]
    unfold chunkB
    apply ByteArray.ext
    rw [ByteArray.data_append, ByteArray.data_extract, ByteArray.data_extract, ByteArray.data_extract]
    have m1 : min (160 * (a + c)) s.size = 160 * (a + c) := by omega
    rw [m1, Array.extract_append_extract]
    congr 1 <;> omega
theorem partB_lens (s : ByteArray) (a c : Nat) (h : a + c ≤ countB s) : lensB (partB s a c) = min (160 * (a + c)) s.size - 160 * a := by
  rw [← JoinB_size, partB_join s a c h, ByteArray.size_extract]
  omega
open Classical in
/-- Of the chunks in which a piece begins and some more: what stands there in the body. -/
theorem piece_part (s : ByteArray) (hs : s.size ≤ 2560) (f n c : Nat) (h1 : f / 160 + c ≤ countB s) (h2 : f ≤ 160 * (f / 160 + c)) (h3 : f ≤ s.size) (hn : (n : Int) ≤ 9223372036854775807) :
    PieceR (partB s (f / 160) c) ((f / 160 : Nat) : Int) (f : Int) (n : Int) = (s.extract f (f + min n (min (160 * (f / 160 + c)) s.size - f)), 0) := by
  have hl := partB_lens s (f / 160) c h1
  have hq : 160 * (f / 160) ≤ f ∧ f < 160 * (f / 160) + 160 := by omega
  unfold PieceR
  rw [hl, partB_join s (f / 160) c h1]
  generalize hQ : f / 160 = q at *
  rw [if_pos (by omega), if_neg (by omega), if_pos (partB_formed s q c h1)]
  have hm := mn_is (n : Int) (((min (160 * (q + c)) s.size - 160 * q : Nat) : Int) - ((f : Int) - (q : Int) * 160))
  generalize mn (n : Int) (((min (160 * (q + c)) s.size - 160 * q : Nat) : Int) - ((f : Int) - (q : Int) * 160)) = m at *
  rw [ByteArray.extract_extract]
  have a1 : 160 * q + ((f : Int) - (q : Int) * 160).toNat = f := by omega
  have a2 : min (160 * q + ((f : Int) - (q : Int) * 160 + m).toNat) (min (160 * (q + c)) s.size) = f + min n (min (160 * (q + c)) s.size - f) := by omega
  rw [a1, a2]
end Go.Proofs.Ytlbfegnmkddlbaa.A
