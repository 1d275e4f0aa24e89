/- A call played. -/
import Derived.Test.YtdjpohmgljhhcaaX25
namespace Go.Proofs.Ytdjpohmgljhhcaa.A
open Go.RowKit Go.Proofs.YtdjpohmgljhhcaaW.PrintWords Go.Proofs.YtdjpohmgljhhcaaW.PrintLast Go.Proofs.YtdjpohmgljhhcaaW.PrintMore
set_option linter.unusedVariables false
set_option linter.unusedSimpArgs false
set_option maxHeartbeats 4000000
set_option maxRecDepth 100000
/-- A string's bytes, as cells. -/
def strCells (s : ByteArray) : List Value := s.data.toList.map fun b => Value.int .u8 b.toNat
theorem str_len (s : ByteArray) : s.size = (strCells s).length := by
  simp only [strCells, List.length_map, Array.length_toList]
  rfl
theorem str_bytes (w : World) (s : ByteArray) (c : Nat) (f : Nat × Nat) (g : Nat) (hg : g = w.heap.size) : BytesAt ((w.alloc (.cells (bytesRow s c) 5 f)).drew) (some ⟨g, 0, none⟩) s.size (strCells s) where
  len := str_len s
  bytes := fun v hv => by
    simp only [strCells, List.mem_map] at hv
    obtain ⟨b, _, rfl⟩ := hv
    exact ⟨b.toNat, b.toNat_lt, rfl⟩
  at_ := fun _ => by
    subst hg
    have hb : ((w.alloc (.cells (bytesRow s c) 5 f)).drew).heap[w.heap.size]? = some (.cells (bytesRow s c) 5 f) := by
      show (w.heap.push _)[w.heap.size]? = _
      simp
    refine ⟨_, 0, rfl, fun j v hv => ?_, _, _, _, hb, rfl⟩
    simp only [World.cell?, hb]
    show (bytesRow s c)[0 + j]? = some v
    rw [Nat.zero_add, bytesRow, ← Array.getElem?_toList, Array.toList_append, Array.toList_map]
    have hj : j < (strCells s).length := by
      rcases Nat.lt_or_ge j (strCells s).length with hl | hg
      · exact hl
      · rw [List.getElem?_eq_none hg] at hv; simp at hv
    rw [List.getElem?_append_left (by simpa [strCells] using hj)]
    exact hv
theorem IsPager.conv {N : Nat} {w : World} {p d fr n dn : Nat} {S : Nat → Nat} {K : Nat → List Value} {P : List (List Value × Nat)} (h : IsPager N w p d fr n dn S K P) (o : Obj) : IsPager N ((w.alloc o).drew) p d fr n dn S K P :=
  (h.grown (below_alloc (Below.refl _ _) _)).grown (below_drew1 (Below.refl _ _))
theorem conv_moves {N : Nat} {w : World} (hN : N ≤ w.heap.size) (o : Obj) : Moves Mp N w ((w.alloc o).drew) :=
  (Moves.of_below (below_alloc (Below.refl _ _) _) hN).trans (Moves.of_below (below_drew1 (Below.refl _ _)) (by simp; omega))
/-- What a call does to what pages are. -/
def Step (n : Nat) (S S' : Nat → Nat) : Prop := S' = S ∨ (∃ i, i < n ∧ S i = 0 ∧ S' = upd S i 2) ∨ (∃ i, S' = relS n S i) ∨ S' = turnS 2 3 S
/-- What a call played leaves. -/
def Plays (N p d fr n dn : Nat) (kd : Int) (S : Nat → Nat) (m : Nat) (w : World) (e : Ending) (w' : World) : Prop := ∃ S' K' P', e = .returned (.tuple #[]) ∧ IsPager N w' p d fr n dn S' K' P' ∧ P'.length ≤ m + 8 ∧ Moves Mp N w w' ∧ (kd ≠ 3 → kd ≠ 5 → Step n S S')
theorem PagerAt.crashed {N : Nat} {w w1 : World} {p a q d kq sq c fr n dn : Nat} {S : Nat → Nat} {K K' : Nat → List Value} {P P' : List (List Value × Nat)} (h : PagerAt N w p a q d kq sq c fr n dn S K P) (hm : Moves Md N w w1) (hd : IsDisk N w1 d kq dn K' P') : PagerAt N w1 p a q d kq sq c fr n dn S K' P' :=
  ⟨(hm.old _ _ _ _ h.self rfl).trans h.self, h.alloc.moves hm rfl rfl, hd, h.states.moves hm rfl, h.vals, h.bq, h.bs, h.geo⟩
theorem play_calls {N : Nat} {w : World} {p d fr n dn : Nat} {S : Nat → Nat} {K : Nat → List Value} {P : List (List Value × Nat)} (h : IsPager N w p d fr n dn S K P) (hP : P.length ≤ 90000) (kd i : Int) (s : ByteArray) (A : Option Addr) (len cap : Nat) (hl : len < 9223372036854775808) (hlc : len ≤ cap) (hA : IntsIn w N A len) :
    Calls Try.prog 12 #[.pointer (some ⟨p, 0, none⟩), .pointer (some ⟨d, 0, none⟩), .agg #[.int .i64 kd, .int .i64 i, .string s, .slice A len cap]] w (Plays N p d fr n dn kd S P.length w) := by
  have kc := fun w s => run_bytes_of_string (P := Try.prog) w 9 40 5 s Try.underlying9 Try.underlying40 Try.underlying5
  have hb0 : Below w.heap.size w (w.alloc (.cells #[.int .i64 kd, .int .i64 i, .string s, .slice A len cap] 36)) := below_alloc (Below.refl _ w) _
  have HM := Aside0.mk (Moves.of_below (M := Mp) hb0 h.lt)
  have H := Aside0.mk (h.grown hb0)
  have HN := Aside0.mk h.lt
  have HA := Aside0.mk (hA.low (hb0.mono h.lt) (Nat.le_refl _))
  have HL := Aside0.mk hl
  have HLC := Aside0.mk hlc
  have HP := Aside0.mk hP
  have HN1 := Aside0.mk (show N ≤ (w.alloc (.cells #[.int .i64 kd, .int .i64 i, .string s, .slice A len cap] 36)).heap.size from Nat.le_trans h.lt hb0.size)
  clear h hb0 hA hl hlc
  by_cases g1 : kd = 1
  · subst g1
    go_enter Try.func12, Try.ntmps12
    go_wp2_with fail
    (with_reducible refine (Rewrite_calls (H.out.conv _) HP.out i _ _ _ (strCells s) (str_bytes _ s _ _ _ (by simp))).mono ?_)
    rintro e w1 ⟨er, P', rfl, hp, hl, hm⟩
    have HR := Aside0.mk (show Plays N p d fr n dn 1 S P.length w (.returned (.tuple #[])) w1 from ⟨S, K, P', rfl, hp, hl, (HM.out.trans (conv_moves HN1.out _)).trans hm, fun _ _ => Or.inl rfl⟩)
    clear hp hl hm
    go_wp2
    go_end0
    exact HR.out
  by_cases g2 : kd = 2
  · subst g2
    go_enter Try.func12, Try.ntmps12
    go_wp2_with fail
    (with_reducible refine (Release_calls H.out i).mono ?_)
    rintro e w1 ⟨er, rfl, hp, hm⟩
    have HR := Aside0.mk (show Plays N p d fr n dn 2 S P.length w (.returned (.tuple #[])) w1 from ⟨_, K, P, rfl, hp, Nat.le_add_right _ _, HM.out.trans hm, fun _ _ => Or.inr (Or.inr (Or.inl ⟨i, rfl⟩))⟩)
    clear hp hm
    go_wp2
    go_end0
    exact HR.out
  by_cases g3 : kd = 3
  · subst g3
    go_enter Try.func12, Try.ntmps12
    go_wp2_with fail
    (with_reducible refine (Settle_calls H.out).mono ?_)
    rintro e w1 ⟨rfl, hp, hm⟩
    have HR := Aside0.mk (show Plays N p d fr n dn 3 S P.length w (.returned (.tuple #[])) w1 from ⟨_, K, P, rfl, hp, Nat.le_add_right _ _, HM.out.trans hm, fun h _ => absurd rfl h⟩)
    clear hp hm
    go_wp2
    go_end0
    exact HR.out
  by_cases g4 : kd = 4
  · subst g4
    go_enter Try.func12, Try.ntmps12
    go_wp2_with fail
    (with_reducible refine (Undo_calls H.out).mono ?_)
    rintro e w1 ⟨rfl, hp, hm⟩
    have HR := Aside0.mk (show Plays N p d fr n dn 4 S P.length w (.returned (.tuple #[])) w1 from ⟨_, K, P, rfl, hp, Nat.le_add_right _ _, HM.out.trans hm, fun _ _ => Or.inr (Or.inr (Or.inr rfl))⟩)
    clear hp hm
    go_wp2
    go_end0
    exact HR.out
  by_cases g5 : kd = 5
  · subst g5
    go_enter Try.func12, Try.ntmps12
    go_wp2_with fail
    (with_reducible refine (Keep_calls H.out A len cap HL.out HLC.out HA.out).mono ?_)
    rintro e w1 ⟨er, S1, rfl, hp, hm⟩
    have HR := Aside0.mk (show Plays N p d fr n dn 5 S P.length w (.returned (.tuple #[])) w1 from ⟨S1, K, P, rfl, hp, Nat.le_add_right _ _, HM.out.trans hm, fun _ h => absurd rfl h⟩)
    clear hp hm
    go_wp2
    go_end0
    exact HR.out
  by_cases g6 : kd = 6
  · subst g6
    go_enter Try.func12, Try.ntmps12
    go_wp2_with fail
    (with_reducible refine (Read_calls H.out (Nat.le_trans HP.out (by decide)) i).mono ?_)
    rintro e w1 hr
    obtain ⟨v1, rfl, hb⟩ : ∃ v1, e = .returned v1 ∧ Below (w.alloc (.cells #[.int .i64 6, .int .i64 i, .string s, .slice A len cap] 36)).heap.size (w.alloc (.cells #[.int .i64 6, .int .i64 i, .string s, .slice A len cap] 36)) w1 := by
      rcases hr with ⟨_, _, _, v, rfl, _, hb⟩ | ⟨_, er, rfl, rfl⟩
      · exact ⟨_, rfl, hb⟩
      · exact ⟨_, rfl, Below.refl _ _⟩
    clear hr
    have hp := H.out.grown hb
    have hm := Moves.of_below (M := Mp) hb HN1.out
    have HR := Aside0.mk (show Plays N p d fr n dn 6 S P.length w (.returned (.tuple #[])) w1 from ⟨S, K, P, rfl, hp, Nat.le_add_right _ _, HM.out.trans hm, fun _ _ => Or.inl rfl⟩)
    clear hp hm hb
    go_wp2
    go_end0
    exact HR.out
  by_cases g7 : kd = 7
  · subst g7
    go_enter Try.func12, Try.ntmps12
    go_wp2_with fail
    (with_reducible refine (Read_calls H.out (Nat.le_trans HP.out (by decide)) i).mono ?_)
    rintro e w1 hr
    obtain ⟨v1, rfl, hb⟩ : ∃ v1, e = .returned v1 ∧ Below (w.alloc (.cells #[.int .i64 7, .int .i64 i, .string s, .slice A len cap] 36)).heap.size (w.alloc (.cells #[.int .i64 7, .int .i64 i, .string s, .slice A len cap] 36)) w1 := by
      rcases hr with ⟨_, _, _, v, rfl, _, hb⟩ | ⟨_, er, rfl, rfl⟩
      · exact ⟨_, rfl, hb⟩
      · exact ⟨_, rfl, Below.refl _ _⟩
    clear hr
    have hp := H.out.grown hb
    have hm := Moves.of_below (M := Mp) hb HN1.out
    have HR := Aside0.mk (show Plays N p d fr n dn 7 S P.length w (.returned (.tuple #[])) w1 from ⟨S, K, P, rfl, hp, Nat.le_add_right _ _, HM.out.trans hm, fun _ _ => Or.inl rfl⟩)
    clear hp hm hb
    go_wp2
    go_end0
    exact HR.out
  by_cases g8 : kd = 8
  · subst g8
    go_enter Try.func12, Try.ntmps12
    go_wp2_with fail
    obtain ⟨a, q, kq, sq, c, hpp⟩ := H.out
    (with_reducible refine (Crash_calls hpp.disk (Nat.le_trans HP.out (by decide)) A len cap HL.out HA.out).mono ?_)
    rintro e w1 ⟨K1, rfl, hd, hm⟩
    have hp : IsPager N w1 p d fr n dn S K1 [] := ⟨a, q, kq, sq, c, hpp.crashed hm hd⟩
    have HR := Aside0.mk (show Plays N p d fr n dn 8 S P.length w (.returned (.tuple #[])) w1 from ⟨S, K1, [], rfl, hp, Nat.zero_le _, HM.out.trans (hm.mono Md_Mp (Nat.le_refl _)), fun _ _ => Or.inl rfl⟩)
    clear hp hm hd hpp
    go_wp2
    go_end0
    exact HR.out
  go_enter Try.func12, Try.ntmps12
  go_wp2_with fail
  (with_reducible refine (Write_calls (H.out.conv _) HP.out _ _ _ (strCells s) (str_bytes _ s _ _ _ (by simp))).mono ?_)
  rintro e w1 hr
  obtain ⟨v1, S1, P1, rfl, hp, hl, hm, hs⟩ : ∃ v1 S1 P1, e = .returned v1 ∧ IsPager N w1 p d fr n dn S1 K P1 ∧ P1.length ≤ P.length + 8 ∧ Moves Mp N w w1 ∧ Step n S S1 := by
    rcases hr with ⟨_, rfl, rfl⟩ | ⟨_, j, a1, a2, _, rfl, hp, hm⟩ | ⟨_, _, rfl, hp, hm⟩
    · exact ⟨_, _, _, rfl, H.out.conv _, Nat.le_add_right _ _, HM.out.trans (conv_moves HN1.out _), Or.inl rfl⟩
    · exact ⟨_, _, _, rfl, hp, by rw [List.length_append, wrote_len]; exact Nat.le_refl _, (HM.out.trans (conv_moves HN1.out _)).trans hm, Or.inr (Or.inl ⟨j, a1, a2, rfl⟩)⟩
    · exact ⟨_, _, _, rfl, hp, Nat.le_add_right _ _, (HM.out.trans (conv_moves HN1.out _)).trans hm, Or.inl rfl⟩
  have HR := Aside0.mk (show Plays N p d fr n dn kd S P.length w (.returned (.tuple #[])) w1 from ⟨S1, K, P1, rfl, hp, hl, hm, fun _ _ => hs⟩)
  clear hp hl hm hs hr
  go_wp2
  go_end0
  exact HR.out
end Go.Proofs.Ytdjpohmgljhhcaa.A
