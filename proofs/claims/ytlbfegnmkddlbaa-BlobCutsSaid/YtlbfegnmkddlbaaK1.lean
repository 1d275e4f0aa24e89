/- Plain facts: bodies cut into chunks, few texts, the chapter's examples. -/
import Derived.Test.YtlbfegnmkddlbaaAx6
namespace Go.Proofs.Ytlbfegnmkddlbaa.A
open Go.RowKit Go.Proofs.YtlbfegnmkddlbaaW.PrintWords Go.Proofs.YtlbfegnmkddlbaaW.PrintLast Go.Proofs.YtlbfegnmkddlbaaW.PrintMore
set_option linter.unusedVariables false
set_option linter.unusedSimpArgs false
theorem ev_val {α : Type} {g : Nat → Option α} {r r' : α} (h : Ev g r) (e : r = r') : Ev g r' := e ▸ h
theorem wrap_ok (n : Int) (h0 : -9223372036854775808 ≤ n) (h1 : n ≤ 9223372036854775807) : wrap64 n = n := by unfold wrap64; omega
theorem mn_is (a b : Int) : (mn a b = a ∧ a ≤ b) ∨ (mn a b = b ∧ b < a) := by
  unfold mn
  split
  · exact .inr ⟨rfl, by assumption⟩
  · exact .inl ⟨rfl, by omega⟩
theorem toList_iff (a b : ByteArray) : a.toList = b.toList ↔ a = b := by
  constructor
  · intro h
    have e : ∀ s : ByteArray, s.toList = s.data.toList := fun s => ByteArray.toList_eq s
    rw [e, e] at h
    apply ByteArray.ext
    exact Array.toList_inj.1 h
  · rintro rfl; rfl
theorem toList_nil (s : ByteArray) : s.toList = [] ↔ s = ⟨#[]⟩ := by
  have e : (⟨#[]⟩ : ByteArray).toList = [] := by rw [ByteArray.toList_eq]
  have h := toList_iff s ⟨#[]⟩
  rw [e] at h
  exact h
theorem rd0 (a b c : Int) : rd [a, b, c] 0 = a ∧ rd [a, b, c] 1 = b ∧ rd [a, b, c] 2 = c := ⟨rfl, rfl, rfl⟩
theorem least_ev (a b c : Int) : Ev (fun k => blob_least.f k [a, b, c]) (decide (0 ≤ a ∧ 0 ≤ b ∧ 0 ≤ c)) := by
  refine ⟨4, fun k hk => ?_⟩
  obtain ⟨m, rfl⟩ : ∃ m, k = m + 4 := ⟨k - 4, by omega⟩
  have e1 : wrap64 (0 + 1) = 1 := wrap_ok _ (by decide) (by decide)
  have e2 : wrap64 (1 + 1) = 2 := wrap_ok _ (by decide) (by decide)
  have e3 : wrap64 (2 + 1) = 3 := wrap_ok _ (by decide) (by decide)
  have hl : (([a, b, c] : List Int).length : Int) = 3 := rfl
  show blob_least.l0 (m + 3 + 1) [a, b, c] (([a, b, c] : List Int).length : Int) 0 = _
  rw [hl, blob_least.l0, if_pos (by decide), if_pos (by decide), hl, if_pos (by decide), (rd0 a b c).1, e1]
  by_cases ha : a < 0
  · rw [if_pos ha, decide_eq_false (by omega)]
  rw [if_neg ha, blob_least.l0, if_pos (by decide), if_pos (by decide), hl, if_pos (by decide), (rd0 a b c).2.1, e2]
  by_cases hb : b < 0
  · rw [if_pos hb, decide_eq_false (by omega)]
  rw [if_neg hb, blob_least.l0, if_pos (by decide), if_pos (by decide), hl, if_pos (by decide), (rd0 a b c).2.2, e3]
  by_cases hc : c < 0
  · rw [if_pos hc, decide_eq_false (by omega)]
  rw [if_neg hc, blob_least.l0, if_neg (by decide), decide_eq_true (by omega)]
/-- What Need tells. -/
def NeedR (a0 a1 a2 : Int) : Int × Int × Int :=
  if 0 ≤ a0 ∧ a0 ≤ 2560 ∧ 0 ≤ a1 ∧ a1 ≤ a0 ∧ 0 ≤ a2 then
    (if mn a2 (a0 - a1) = 0 then (0, 0, 0) else (a1 / 160, (a1 + mn a2 (a0 - a1) - 1) / 160 - a1 / 160 + 1, 0))
  else (0, 0, 2)
theorem need_tail (a0 a1 a2 : Int) (h : 0 ≤ a0 ∧ a0 ≤ 2560 ∧ 0 ≤ a1 ∧ a1 ≤ a0 ∧ 0 ≤ a2) : (if (mn a2 (wrap64 (a0 - a1))) = 0 then (some ((0 : Int), (0 : Int), (0 : Int))) else (some (wrap64 (Int.tdiv a1 160), wrap64 ((wrap64 ((wrap64 (Int.tdiv (wrap64 ((wrap64 (a1 + (mn a2 (wrap64 (a0 - a1))))) - 1)) 160)) - (wrap64 (Int.tdiv a1 160)))) + 1), 0))) = some (NeedR a0 a1 a2) := by
  obtain ⟨h0, h1, h2, h3, h4⟩ := h
  have e : NeedR a0 a1 a2 = (if mn a2 (a0 - a1) = 0 then (0, 0, 0) else (a1 / 160, (a1 + mn a2 (a0 - a1) - 1) / 160 - a1 / 160 + 1, 0)) := by
    unfold NeedR
    rw [if_pos ⟨h0, h1, h2, h3, h4⟩]
  rw [e, wrap_ok (a0 - a1) (by omega) (by omega)]
  have hm := mn_is a2 (a0 - a1)
  generalize mn a2 (a0 - a1) = m at hm
  by_cases hz : m = 0
  · rw [if_pos hz, if_pos hz]
  · rw [if_neg hz, if_neg hz, wrap_ok (a1 + m) (by omega) (by omega), wrap_ok (a1 + m - 1) (by omega) (by omega), Int.tdiv_eq_ediv_of_nonneg (by omega), Int.tdiv_eq_ediv_of_nonneg (by omega), wrap_ok (a1 / 160) (by omega) (by omega), wrap_ok ((a1 + m - 1) / 160) (by omega) (by omega), wrap_ok ((a1 + m - 1) / 160 - a1 / 160) (by omega) (by omega), wrap_ok ((a1 + m - 1) / 160 - a1 / 160 + 1) (by omega) (by omega)]
theorem need_ev (a0 a1 a2 : Int) : Ev (fun k => blob_Need.f k a0 a1 a2) (NeedR a0 a1 a2) := by
  have bad : ¬ (0 ≤ a0 ∧ a0 ≤ 2560 ∧ 0 ≤ a1 ∧ a1 ≤ a0 ∧ 0 ≤ a2) → Ev (fun k => blob_Need.j0 k a0 a1 a2 true) (NeedR a0 a1 a2) := fun h => by
    unfold NeedR
    rw [if_neg h]
    exact Ev.step (f := fun _ => some (0, 0, 2)) (fun k => by rw [blob_Need.j0, if_pos rfl]) (Ev.now _)
  unfold blob_Need.f
  refine Ev.bind (least_ev a0 a1 a2) ?_
  by_cases hl : 0 ≤ a0 ∧ 0 ≤ a1 ∧ 0 ≤ a2
  case neg => exact Ev.congr (f := fun k => blob_Need.j0 k a0 a1 a2 true) (fun k => by rw [decide_eq_false hl, if_neg (by decide)]) (bad (by omega))
  by_cases hb : a0 > 2560
  · exact Ev.congr (f := fun k => blob_Need.j0 k a0 a1 a2 true) (fun k => by rw [decide_eq_true hl, if_pos rfl, if_pos hb]) (bad (by omega))
  by_cases hc : a1 > a0
  · exact Ev.congr (f := fun k => blob_Need.j0 k a0 a1 a2 true) (fun k => by rw [decide_eq_true hl, if_pos rfl, if_neg hb, decide_eq_true hc]) (bad (by omega))
  refine Ev.congr (f := fun k => blob_Need.j0 k a0 a1 a2 false) (fun k => by rw [decide_eq_true hl, if_pos rfl, if_neg hb, decide_eq_false hc]) ?_
  exact Ev.step (f := fun _ => some (NeedR a0 a1 a2)) (fun k => by rw [blob_Need.j0, if_neg (by decide), need_tail a0 a1 a2 (by omega)]) (Ev.now _)
/-! ### the cutter -/
def chunkB (s : ByteArray) (j : Nat) : ByteArray := s.extract (160 * j) (min (160 * j + 160) s.size)
def chunksB (s : ByteArray) (n : Nat) : List ByteArray := (List.range n).map (chunkB s)
def countB (s : ByteArray) : Nat := (s.size + 159) / 160
def CutR (s : ByteArray) : List ByteArray × Int := if s.size ≤ 2560 then (chunksB s (countB s), 0) else ([], 5)
theorem chunkB_size (s : ByteArray) (j : Nat) : (chunkB s j).size = min (160 * j + 160) s.size - 160 * j := by
  unfold chunkB
  rw [ByteArray.size_extract]
  omega
theorem cut_loop (s : ByteArray) (hs : s.size ≤ 2560) : ∀ (d i : Nat), i + d = countB s → Ev (fun k => blob_Cut.l0 k (s.extract (160 * i) s.size) (chunksB s i) (countB s : Int) (i : Int)) (chunksB s (countB s), 0) := by
  intro d
  induction d with
  | zero =>
    intro i hi
    obtain rfl : i = countB s := by omega
    exact Ev.step (f := fun _ => some (chunksB s (countB s), 0)) (fun k => by rw [blob_Cut.l0, if_neg (by omega)]) (Ev.now _)
  | succ d ih =>
    intro i hi
    have hc : countB s = (s.size + 159) / 160 := rfl
    have hlt : 160 * i < s.size := by omega
    have p1 : (i : Int) < (countB s : Int) := by omega
    have p4' : i < 8796093022208 := by omega
    have hw1 : wrap64 ((i : Int) + 1) = ((i + 1 : Nat) : Int) := by rw [wrap_ok _ (by omega) (by omega)]; rfl
    have hx : (s.extract (160 * i) s.size).size = s.size - 160 * i := by rw [ByteArray.size_extract]; omega
    obtain ⟨m, hm, hm1, hm2⟩ : ∃ m : Nat, mn 160 ((s.extract (160 * i) s.size).size : Int) = (m : Int) ∧ m ≤ s.size - 160 * i ∧ (m = 160 ∨ (m < 160 ∧ m = s.size - 160 * i)) := by
      rw [hx]
      rcases mn_is 160 ((s.size - 160 * i : Nat) : Int) with ⟨e, h⟩ | ⟨e, h⟩
      · exact ⟨160, e, by omega, .inl rfl⟩
      · exact ⟨s.size - 160 * i, e, by omega, .inr ⟨by omega, rfl⟩⟩
    refine Ev.step (f := fun k => blob_Cut.l0 k (s.extract (160 * (i + 1)) s.size) (chunksB s (i + 1)) (countB s : Int) ((i + 1 : Nat) : Int)) (fun k => ?_) (ih (i + 1) (by omega))
    have e1 : (s.extract (160 * i) s.size).extract m (s.extract (160 * i) s.size).size = s.extract (160 * (i + 1)) s.size := by
      rw [ByteArray.extract_extract, hx]
      rcases hm2 with h | ⟨h, h'⟩
      · rw [h, show min (160 * i + (s.size - 160 * i)) s.size = s.size by omega]
        rfl
      · have a1 : s.extract (160 * i + m) (min (160 * i + (s.size - 160 * i)) s.size) = ByteArray.empty := ByteArray.extract_eq_empty_iff.2 (by omega)
        have a2 : s.extract (160 * (i + 1)) s.size = ByteArray.empty := ByteArray.extract_eq_empty_iff.2 (by omega)
        rw [a1, a2]
    have e2 : (s.extract (160 * i) s.size).extract 0 m = chunkB s i := by
      unfold chunkB
      have a1 : min (160 * i + m) s.size = min (160 * i + 160) s.size := by omega
      rw [ByteArray.extract_extract, Nat.add_zero, a1]
    have e3 : chunksB s (i + 1) = chunksB s i ++ [chunkB s i] := by
      unfold chunksB
      rw [List.range_succ, List.map_append]
      rfl
    have hl : (chunksB s i).length = i := by simp [chunksB]
    have p2 : (0 : Int) ≤ (m : Int) := Int.natCast_nonneg m
    have p3 : (m : Int) ≤ ((s.extract (160 * i) s.size).size : Int) := by rw [hx]; omega
    have p4 : (chunksB s i).length < 8796093022208 := by rw [hl]; exact p4'
    rw [blob_Cut.l0, if_pos p1, hm, if_pos p2, if_pos p3, if_pos p4, Int.toNat_natCast, e1, e2, ← e3, hw1]
theorem cut_ev (s : ByteArray) (hs : s.size ≤ 140737488351232) : Ev (fun k => blob_Cut.f k s) (CutR s) := by
  by_cases h : s.size ≤ 2560
  · refine Ev.congr (f := fun k => blob_Cut.l0 k (s.extract (160 * 0) s.size) (chunksB s 0) (countB s : Int) ((0 : Nat) : Int)) (fun k => ?_) (ev_val (cut_loop s h (countB s) 0 (by omega)) ?_)
    · unfold blob_Cut.f
      have e1 : wrap64 (Int.tdiv (wrap64 ((wrap64 ((s.size : Int) + 160)) - 1)) 160) = (countB s : Int) := by
        rw [wrap_ok ((s.size : Int) + 160) (by omega) (by omega), wrap_ok ((s.size : Int) + 160 - 1) (by omega) (by omega), Int.tdiv_eq_ediv_of_nonneg (by omega), wrap_ok (((s.size : Int) + 160 - 1) / 160) (by omega) (by omega)]
        unfold countB
        omega
      have e2 : s.extract (160 * 0) s.size = s := by
        apply ByteArray.ext
        rw [ByteArray.data_extract]
        exact Array.extract_size
      rw [if_neg (by omega), e1, e2]
      rfl
    · unfold CutR
      rw [if_pos h]
  · refine Ev.congr (f := fun _ => some ([], 5)) (fun k => by unfold blob_Cut.f; rw [if_pos (by omega)]) (ev_val (Ev.now _) ?_)
    unfold CutR
    rw [if_neg h]
/-! ### the lengths of chunks -/
def Formed (l : List ByteArray) : Prop := ∀ (j : Nat) (h : j < l.length), l[j].size ≠ 0 ∧ l[j].size ≤ 160 ∧ (j + 1 < l.length → l[j].size = 160)
open Classical in
theorem formed_loop (l : List ByteArray) (hn : l.length ≤ 4398046510976) : ∀ (d i : Nat), i + d = l.length → Ev (fun k => blob_formed.l0 k l l (l.length : Int) (i : Int)) (decide (∀ (j : Nat) (h : j < l.length), i ≤ j → l[j].size ≠ 0 ∧ l[j].size ≤ 160 ∧ (j + 1 < l.length → l[j].size = 160))) := by
  intro d
  induction d with
  | zero =>
    intro i hi
    exact Ev.step (f := fun _ => some true) (fun k => by rw [blob_formed.l0, if_neg (by omega)]) (ev_val (Ev.now _) (decide_eq_true (fun j h hj => by omega)).symm)
  | succ d ih =>
    intro i hi
    have hlt : i < l.length := by omega
    have hw : wrap64 ((l.length : Int) - 1) = (l.length : Int) - 1 := wrap_ok _ (by omega) (by omega)
    have hw1 : wrap64 ((i : Int) + 1) = ((i + 1 : Nat) : Int) := by rw [wrap_ok _ (by omega) (by omega)]; rfl
    have head : ∀ k, blob_formed.l0 (k + 1) l l (l.length : Int) (i : Int) = if (l[i].size : Int) = 0 then some false else if (l[i].size : Int) > 160 then some false else if (i : Int) < (l.length : Int) - 1 then (if (l[i].size : Int) < 160 then some false else blob_formed.l0 k l l (l.length : Int) ((i + 1 : Nat) : Int)) else blob_formed.l0 k l l (l.length : Int) ((i + 1 : Nat) : Int) := fun k => by
      rw [blob_formed.l0, if_pos (by omega), if_pos (by omega), if_pos (by omega), rdOf_at l i hlt, hw, hw1]
    have no : ∀ {p : Prop}, ¬ (l[i].size ≠ 0 ∧ l[i].size ≤ 160 ∧ (i + 1 < l.length → l[i].size = 160)) → (∀ k, blob_formed.l0 (k + 1) l l (l.length : Int) (i : Int) = some false) → Ev (fun k => blob_formed.l0 k l l (l.length : Int) (i : Int)) (decide (∀ (j : Nat) (h : j < l.length), i ≤ j → l[j].size ≠ 0 ∧ l[j].size ≤ 160 ∧ (j + 1 < l.length → l[j].size = 160))) := fun h1 h2 =>
      Ev.step (f := fun _ => some false) h2 (ev_val (Ev.now _) (decide_eq_false (fun h => h1 (h i hlt (Nat.le_refl _)))).symm)
    by_cases h0 : l[i].size = 0
    · exact no (p := True) (fun h => h.1 h0) (fun k => by rw [head, if_pos (by omega)])
    by_cases h1 : 160 < l[i].size
    · exact no (p := True) (fun h => by have := h.2.1; omega) (fun k => by rw [head, if_neg (by omega), if_pos (by omega)])
    by_cases h2 : i + 1 < l.length ∧ l[i].size < 160
    · exact no (p := True) (fun h => by have := h.2.2 h2.1; omega) (fun k => by rw [head, if_neg (by omega), if_neg (by omega), if_pos (by omega), if_pos (by omega)])
    refine Ev.step (f := fun k => blob_formed.l0 k l l (l.length : Int) ((i + 1 : Nat) : Int)) (fun k => ?_) (ev_val (ih (i + 1) (by omega)) ?_)
    · rw [head, if_neg (by omega), if_neg (by omega)]
      by_cases h3 : (i : Int) < (l.length : Int) - 1
      · rw [if_pos h3, if_neg (by omega)]
      · rw [if_neg h3]
    · rw [decide_eq_decide]
      constructor
      · intro h j hj hij
        by_cases e : j = i
        · subst e
          exact ⟨h0, by omega, fun h4 => by omega⟩
        · exact h j hj (by omega)
      · intro h j hj hij
        exact h j hj (by omega)
open Classical in
theorem formed_ev (l : List ByteArray) (hn : l.length ≤ 4398046510976) : Ev (fun k => blob_formed.f k l) (decide (Formed l)) := by
  unfold blob_formed.f
  refine ev_val (formed_loop l hn l.length 0 (by omega)) ?_
  rw [decide_eq_decide]
  exact ⟨fun h j hj => h j hj (Nat.zero_le _), fun h j hj _ => h j hj⟩
/-! ### the teller of pieces -/
def JoinB (l : List ByteArray) : ByteArray := ⟨(catB l).toArray⟩
theorem JoinB_size (l : List ByteArray) : (JoinB l).size = lensB l := by
  rw [← catB_length]
  rfl
theorem lives_ev : Ev (fun k => ambrylaw19_lives.f k) true := by
  have hz : (strOfNums (List.replicate 161 0)).size = 161 := by rw [strOfNums_size, List.length_replicate]
  generalize hs : strOfNums (List.replicate 161 0) = s at hz
  have hc : CutR s = ([chunkB s 0, chunkB s 1], 0) := by
    unfold CutR
    have e : countB s = 2 := by unfold countB; rw [hz]
    rw [if_pos (by omega), e]
    rfl
  have n1 : NeedR 161 159 2 = (0, 2, 0) := by decide
  have n2 : NeedR 161 160 9 = (1, 1, 0) := by decide
  have n3 : NeedR 161 161 5 = (0, 0, 0) := by decide
  have c0 : (chunkB s 0).size = 160 := by rw [chunkB_size, hz]; rfl
  have c1 : (chunkB s 1).size = 1 := by rw [chunkB_size, hz]; rfl
  refine Ev.congr (f := fun k => (blob_Cut.f k s).bind fun bt113 => ((blob_Need.f k 161 159 2).bind fun bt117 => ((blob_Need.f k 161 160 9).bind fun bt120 => ((blob_Need.f k 161 161 5).bind fun bt123 => (if (bt113.1.length : Int) = 2 then (if 0 < (bt113.1.length : Int) then (if ((rdOf ByteArray.empty bt113.1 0).size : Int) = 160 then (if 1 < (bt113.1.length : Int) then (if ((rdOf ByteArray.empty bt113.1 1).size : Int) = 1 then (if bt113.2 = 0 then (if bt117.1 = 0 then (if bt117.2.1 = 2 then (if bt117.2.2 = 0 then (if bt120.1 = 1 then (if bt120.2.1 = 1 then (if bt120.2.2 = 0 then (if bt123.1 = 0 then (if bt123.2.1 = 0 then (if bt123.2.2 = 0 then (some true) else (some false)) else (some false)) else (some false)) else (some false)) else (some false)) else (some false)) else (some false)) else (some false)) else (some false)) else (some false)) else (some false)) else (none)) else (some false)) else (none)) else (some false)))))) (fun k => by unfold ambrylaw19_lives.f; rw [if_pos (by decide), hs]) ?_
  refine Ev.bind (ev_val (cut_ev s (by omega)) hc) (Ev.bind (ev_val (need_ev _ _ _) n1) (Ev.bind (ev_val (need_ev _ _ _) n2) (Ev.bind (ev_val (need_ev _ _ _) n3) ?_)))
  refine Ev.congr (f := fun _ => some true) (fun k => ?_) (Ev.now _)
  have r0 : rdOf ByteArray.empty [chunkB s 0, chunkB s 1] 0 = chunkB s 0 := rfl
  have r1 : rdOf ByteArray.empty [chunkB s 0, chunkB s 1] 1 = chunkB s 1 := rfl
  have hl : (([chunkB s 0, chunkB s 1] : List ByteArray).length : Int) = 2 := rfl
  simp only [r0, r1, hl, c0, c1]
  rfl
theorem lives_then : Ev (fun k => (ambrylaw19_lives.f k).bind fun t => some t) true := Ev.bind lives_ev (Ev.now _)
set_option linter.unusedSimpArgs false
def partB (s : ByteArray) (a c : Nat) : List ByteArray := (List.range' a c).map (chunkB s)
theorem chunks_part (s : ByteArray) (N a b : Nat) (h : b ≤ N) : ((chunksB s N).take b).drop a = partB s a (b - a) := by
  unfold chunksB partB
  rw [← List.map_take, ← List.map_drop, List.take_range, Nat.min_eq_left h, List.range_eq_range', List.drop_range']
  congr 2
  omega
theorem partB_length (s : ByteArray) (a c : Nat) : (partB s a c).length = c := by simp [partB]
theorem partB_at (s : ByteArray) (a c j : Nat) (h : j < (partB s a c).length) : (partB s a c)[j] = chunkB s (a + j) := by simp [partB]
theorem partB_formed (s : ByteArray) (a c : Nat) (h : a + c ≤ countB s) : Formed (partB s a c) := by
  intro j hj
  have hl := partB_length s a c
  have hc : countB s = (s.size + 159) / 160 := rfl
  rw [partB_at, chunkB_size]
  generalize countB s = N at *
  rw [hl] at hj ⊢
  omega
theorem partB_join (s : ByteArray) (a : Nat) : ∀ (c : Nat), a + c ≤ countB s → JoinB (partB s a c) = s.extract (160 * a) (min (160 * (a + c)) s.size)
  | 0, h => by
    have e : s.extract (160 * a) (min (160 * (a + 0)) s.size) = ByteArray.empty := ByteArray.extract_eq_empty_iff.2 (by omega)
    rw [e]
    rfl
  | c + 1, h => by
    have ih := partB_join s a c (by omega)
    have hc : countB s = (s.size + 159) / 160 := rfl
    have hlt : 160 * (a + c) < s.size := by
      generalize countB s = N at *
      omega
    have e1 : JoinB (partB s a (c + 1)) = JoinB (partB s a c) ++ chunkB s (a + c) := by
      apply ByteArray.ext
      apply Array.toList_inj.1
      rw [ByteArray.toList_data_append]
      simp [JoinB, partB, catB, List.range'_concat]
    rw [e1, ih]
    unfold chunkB
    apply ByteArray.ext
    rw [ByteArray.data_append, ByteArray.data_extract, ByteArray.data_extract, ByteArray.data_extract]
    have m1 : min (160 * (a + c)) s.size = 160 * (a + c) := by omega
    rw [m1, Array.extract_append_extract]
    congr 1 <;> omega
theorem partB_lens (s : ByteArray) (a c : Nat) (h : a + c ≤ countB s) : lensB (partB s a c) = min (160 * (a + c)) s.size - 160 * a := by
  rw [← JoinB_size, partB_join s a c h, ByteArray.size_extract]
  omega
/-! ### few -/
def Few (l : List ByteArray) : Prop := l.length ≤ 100 ∧ ∀ (j : Nat) (h : j < l.length), l[j].size ≤ 10000
open Classical in
theorem few_loop (l : List ByteArray) (hn : l.length ≤ 100) : ∀ (d i : Nat), i + d = l.length → Ev (fun k => ambrylaw19_few.l0 k l (i : Int)) (decide (∀ (j : Nat) (h : j < l.length), i ≤ j → l[j].size ≤ 10000)) := by
  intro d
  induction d with
  | zero =>
    intro i hi
    exact Ev.step (f := fun _ => some true) (fun k => by rw [ambrylaw19_few.l0, if_neg (by omega)]) (ev_val (Ev.now _) (decide_eq_true (fun j h hj => by omega)).symm)
  | succ d ih =>
    intro i hi
    have hlt : i < l.length := by omega
    by_cases h0 : l[i].size ≤ 10000
    · refine Ev.step (f := fun k => ambrylaw19_few.l0 k l ((i + 1 : Nat) : Int)) (fun k => ?_) (ev_val (ih (i + 1) (by omega)) ?_)
      · have hw1 : wrap64 ((i : Int) + 1) = ((i + 1 : Nat) : Int) := by rw [wrap_ok _ (by omega) (by omega)]; rfl
        rw [ambrylaw19_few.l0, if_pos (by omega), if_pos (by omega), rdOf_at l i hlt, if_neg (by omega), hw1]
      · rw [decide_eq_decide]
        constructor
        · intro h j hj hij
          by_cases e : j = i
          · subst e
            exact h0
          · exact h j hj (by omega)
        · intro h j hj hij
          exact h j hj (by omega)
    · refine Ev.step (f := fun _ => some false) (fun k => ?_) (ev_val (Ev.now _) (decide_eq_false (fun h => h0 (h i hlt (Nat.le_refl _)))).symm)
      rw [ambrylaw19_few.l0, if_pos (by omega), if_pos (by omega), rdOf_at l i hlt, if_pos (by omega)]
open Classical in
theorem few_ev (l : List ByteArray) : Ev (fun k => ambrylaw19_few.f k l) (decide (Few l)) := by
  unfold ambrylaw19_few.f
  by_cases h : l.length ≤ 100
  · refine Ev.congr (f := fun k => ambrylaw19_few.l0 k l ((0 : Nat) : Int)) (fun k => by rw [if_neg (by omega)]; rfl) (ev_val (few_loop l h l.length 0 (by omega)) ?_)
    rw [decide_eq_decide]
    exact ⟨fun h2 => ⟨h, fun j hj => h2 j hj (Nat.zero_le _)⟩, fun h2 j hj _ => h2.2 j hj⟩
  · exact Ev.congr (f := fun _ => some false) (fun k => by rw [if_pos (by omega)]) (ev_val (Ev.now _) (decide_eq_false (fun h2 => h h2.1)).symm)
theorem few_lens (l : List ByteArray) (h : Few l) : lensB l ≤ 1000000 := by
  have key : ∀ (i : Nat), i ≤ l.length → lensB (l.take i) ≤ 10000 * i := by
    intro i
    induction i with
    | zero => intro _; simp [lensB]
    | succ i ih =>
      intro hi
      have h1 := lensB_take l i (by omega)
      have h2 := h.2 i (by omega)
      have h3 := ih (by omega)
      omega
  have h1 := key l.length (Nat.le_refl _)
  rw [List.take_length] at h1
  have h2 := h.1
  omega
end Go.Proofs.Ytlbfegnmkddlbaa.A
