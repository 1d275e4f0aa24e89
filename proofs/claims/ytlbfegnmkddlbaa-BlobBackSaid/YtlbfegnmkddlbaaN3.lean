/- Plain facts: the document's chunks, texts joined, tags and checks are the program's. -/
import Derived.Test.YtlbfegnmkddlbaaK1
namespace Go.Proofs.Ytlbfegnmkddlbaa.A
open Go.RowKit Go.Proofs.YtlbfegnmkddlbaaW.PrintWords Go.Proofs.YtlbfegnmkddlbaaW.PrintLast Go.Proofs.YtlbfegnmkddlbaaW.PrintMore
set_option linter.unusedVariables false
def Bytes_ (l : List Int) : Prop := ∀ x ∈ l, 0 ≤ x ∧ x ≤ 255
theorem bytes_of_nums (l : List Int) (h : Bytes_ l) : bytesOf (strOfNums l) = l := by
  unfold bytesOf strOfNums
  rw [List.map_map]
  conv => rhs; rw [← List.map_id l]
  apply List.map_congr_left
  intro x hx
  obtain ⟨h0, h1⟩ := h x hx
  simp
  omega
theorem nums_of_bytes (s : ByteArray) : strOfNums (bytesOf s) = s := by
  apply ByteArray.ext
  unfold bytesOf strOfNums
  rw [List.map_map]
  have : (fun n : Int => UInt8.ofNat n.toNat) ∘ (fun b : UInt8 => (b.toNat : Int)) = id := by
    funext b
    simp
  rw [this, List.map_id]
theorem bytes_are (s : ByteArray) : Bytes_ (bytesOf s) := by
  intro x hx
  unfold bytesOf at hx
  obtain ⟨b, _, rfl⟩ := List.mem_map.1 hx
  have := b.toNat_lt
  exact ⟨by omega, by omega⟩
theorem nums_inj {a b : List Int} (ha : Bytes_ a) (hb : Bytes_ b) (h : strOfNums a = strOfNums b) : a = b := by
  rw [← bytes_of_nums a ha, h, bytes_of_nums b hb]
theorem drop_bt (s : ByteArray) (i : Nat) (h : i < s.size) : (bytesOf s).drop i = bt s (i : Int) :: (bytesOf s).drop (i + 1) := by
  have hl : i < (bytesOf s).length := by rw [bytesOf_length]; exact h
  have h1 := rd_bytesOf s (i : Int)
  rw [List.drop_eq_getElem_cons hl, ← h1]
  simp [rd, List.getD_eq_getElem?_getD, List.getElem?_eq_getElem hl]
theorem drop_end (s : ByteArray) : (bytesOf s).drop s.size = [] := by rw [← bytesOf_length s, List.drop_length]
theorem rleft_is (n : Int) (h0 : -4611686018427387904 ≤ n) (h1 : n ≤ 4611686018427387904) : ambryref03_left.f n = some (n % 1048573) := by
  unfold ambryref03_left.f
  have e : (Int.tmod n 1048573 = n % 1048573) ∨ (Int.tmod n 1048573 = n % 1048573 - 1048573 ∧ n % 1048573 ≠ 0) := by
    rcases Int.lt_or_le n 0 with h | h
    · have h1 := Int.tmod_eq_emod (a := n) (b := 1048573)
      split at h1
      · exact .inl (by omega)
      · have h2 : (Int.natAbs 1048573 : Int) = 1048573 := rfl
        have h3 : n % 1048573 ≠ 0 := fun h => by
          have : ¬ (0 ≤ n ∨ (1048573 : Int) ∣ n) := by assumption
          omega
        exact .inr ⟨by omega, h3⟩
    · exact .inl (Int.tmod_eq_emod_of_nonneg h)
  have hr : wrap64 (Int.tmod n 1048573 + 1048573) = Int.tmod n 1048573 + 1048573 := by
    rw [wrap_ok _ (by omega) (by omega)]
  rw [hr, Int.tmod_eq_emod_of_nonneg (by omega)]
  congr 1
  omega
theorem rturn_is (a b : Int) (ha : 0 ≤ a ∧ a < 1048573) (hb : 0 ≤ b ∧ b < 1048573) : ambryref03_turn.f a b = some ((a * 3 - b * 2) % 1048573, (a * 2 + b * 3) % 1048573) := by
  unfold ambryref03_turn.f
  have w1 : wrap64 (3 * a) = 3 * a := wrap_ok _ (by omega) (by omega)
  have w2 : wrap64 (2 * b) = 2 * b := wrap_ok _ (by omega) (by omega)
  have w3 : wrap64 (2 * a) = 2 * a := wrap_ok _ (by omega) (by omega)
  have w4 : wrap64 (3 * b) = 3 * b := wrap_ok _ (by omega) (by omega)
  have w5 : wrap64 (3 * a - 2 * b) = 3 * a - 2 * b := wrap_ok _ (by omega) (by omega)
  have w6 : wrap64 (2 * a + 3 * b) = 2 * a + 3 * b := wrap_ok _ (by omega) (by omega)
  rw [w1, w2, w3, w4, w5, w6, rleft_is _ (by omega) (by omega), rleft_is _ (by omega) (by omega)]
  simp only [Option.bind_some]
  rw [Int.mul_comm 3 a, Int.mul_comm 2 b, Int.mul_comm 2 a, Int.mul_comm 3 b]
theorem rof_loop (s : ByteArray) (hs : s.size ≤ 140737488351232) (r : Int × Int) : ∀ (d i : Nat) (t : Int × Int), i + d = s.size → ((0 ≤ t.1 ∧ t.1 < 1048573) ∧ (0 ≤ t.2 ∧ t.2 < 1048573)) → ((bytesOf s).drop i).foldl tagStep t = r → Ev (fun k => ambryref03_Of.l0 k s (i : Int) t.1 t.2) r := by
  intro d
  induction d with
  | zero =>
    intro i t hi ht hr
    obtain rfl : i = s.size := by omega
    rw [drop_end] at hr
    refine Ev.step (f := fun _ => some r) (fun k => ?_) (Ev.now r)
    simp only [ambryref03_Of.l0]
    rw [if_neg (by omega), ← hr]
    rfl
  | succ d ih =>
    intro i t hi ht hr
    have hlt : i < s.size := by omega
    rw [drop_bt s i hlt, List.foldl_cons] at hr
    have hb := bt_range s (i : Int)
    have hst := tagStep_range t (bt s (i : Int))
    have h2 := ih (i + 1) _ (by omega) hst hr
    refine Ev.step (f := fun k => ambryref03_Of.l0 k s ((i + 1 : Nat) : Int) (tagStep t (bt s (i : Int))).1 (tagStep t (bt s (i : Int))).2) (fun k => ?_) h2
    have hw : wrap64 ((i : Int) + 1) = ((i + 1 : Nat) : Int) := by rw [wrap_ok _ (by omega) (by omega)]; omega
    simp only [ambryref03_Of.l0]
    rw [if_pos (by omega), rturn_is t.1 t.2 ht.1 ht.2]
    simp only [Option.bind_some]
    generalize bt s (i : Int) = c at *
    have hx := Int.emod_nonneg (t.1 * 3 - t.2 * 2) (show (1048573 : Int) ≠ 0 by decide)
    have hx2 := Int.emod_lt_of_pos (t.1 * 3 - t.2 * 2) (show (0 : Int) < 1048573 by decide)
    have hy := Int.emod_nonneg (t.1 * 2 + t.2 * 3) (show (1048573 : Int) ≠ 0 by decide)
    have hy2 := Int.emod_lt_of_pos (t.1 * 2 + t.2 * 3) (show (0 : Int) < 1048573 by decide)
    have es : tagStep t c = (((t.1 * 3 - t.2 * 2) % 1048573 + (c + 1)) % 1048573, ((t.1 * 2 + t.2 * 3) % 1048573 + (256 - c)) % 1048573) := rfl
    generalize (t.1 * 3 - t.2 * 2) % 1048573 = x at *
    generalize (t.1 * 2 + t.2 * 3) % 1048573 = y at *
    rw [if_pos (by omega), wrap_ok c (by omega) (by omega), wrap_ok (x + c) (by omega) (by omega), wrap_ok (x + c + 1) (by omega) (by omega), wrap_ok (y + 256) (by omega) (by omega), wrap_ok (y + 256 - c) (by omega) (by omega), rleft_is _ (by omega) (by omega)]
    simp only [Option.bind_some]
    rw [rleft_is _ (by omega) (by omega)]
    simp only [Option.bind_some]
    rw [hw, es, show x + c + 1 = x + (c + 1) by omega, show y + 256 - c = y + (256 - c) by omega]
theorem rof_ev (s : ByteArray) (hs : s.size ≤ 140737488351232) : Ev (fun k => ambryref03_Of.f k s) (tagOf (bytesOf s)) :=
  rof_loop s hs _ s.size 0 (0, 0) (by omega) (by decide) rfl
theorem tag_Of_is (l : List Int) (h : Bytes_ l) (hl : l.length ≤ 140737488355328) : tag_Of.f l = some (tagOf l) := by
  unfold tag_Of.f
  rw [if_pos ⟨h, by omega⟩]
/-! ### the document's cutter -/
theorem rcut_loop (s : ByteArray) (hs : s.size ≤ 2560) : ∀ (d i : Nat), i + d = countB s → Ev (fun k => ambryref19_Cut.l0 k s (chunksB s i) ((160 * i : Nat) : Int)) (chunksB s (countB s), 0) := by
  intro d
  induction d with
  | zero =>
    intro i hi
    have hc : countB s = (s.size + 159) / 160 := rfl
    have hge : ¬ ((160 * i : Nat) : Int) < (s.size : Int) := by omega
    obtain rfl : i = countB s := by omega
    exact Ev.step (f := fun _ => some (chunksB s (countB s), 0)) (fun k => by rw [ambryref19_Cut.l0, if_neg hge]) (Ev.now _)
  | succ d ih =>
    intro i hi
    have hc : countB s = (s.size + 159) / 160 := rfl
    have hlt : 160 * i < s.size := by omega
    have p1 : ((160 * i : Nat) : Int) < (s.size : Int) := by omega
    have p0 : (0 : Int) ≤ ((160 * i : Nat) : Int) := by omega
    have p4' : i < 8796093022208 := by omega
    obtain ⟨m, hm, hm1, hm2, hm3⟩ : ∃ m : Nat, mn (s.size : Int) ((160 * i + 160 : Nat) : Int) = (m : Int) ∧ m = min (160 * i + 160) s.size ∧ 160 * i ≤ m ∧ m ≤ s.size := by
      rcases mn_is (s.size : Int) ((160 * i + 160 : Nat) : Int) with ⟨e, h⟩ | ⟨e, h⟩
      · exact ⟨s.size, e, by omega, by omega, by omega⟩
      · exact ⟨160 * i + 160, e, by omega, by omega, by omega⟩
    have p2 : ((160 * i : Nat) : Int) ≤ (m : Int) := by omega
    have p3 : (m : Int) ≤ (s.size : Int) := by omega
    have e3 : chunksB s (i + 1) = chunksB s i ++ [s.extract (160 * i) m] := by
      unfold chunksB
      rw [List.range_succ, List.map_append, hm1]
      rfl
    have hl : (chunksB s i).length = i := by simp [chunksB]
    have p4 : (chunksB s i).length < 8796093022208 := by rw [hl]; exact p4'
    refine Ev.step (f := fun k => ambryref19_Cut.l0 k s (chunksB s (i + 1)) ((160 * (i + 1) : Nat) : Int)) (fun k => ?_) (ih (i + 1) (by omega))
    have hw1 : wrap64 (((160 * i : Nat) : Int) + 160) = ((160 * i + 160 : Nat) : Int) := by rw [wrap_ok _ (by omega) (by omega)]; omega
    rw [ambryref19_Cut.l0, if_pos p1, if_pos p0, hw1, hm, if_pos p2, if_pos p3, if_pos p4, Int.toNat_natCast, Int.toNat_natCast, ← e3]
    rfl
theorem rcut_ev (s : ByteArray) (hs : s.size ≤ 140737488351232) : Ev (fun k => ambryref19_Cut.f k s) (CutR s) := by
  by_cases h : s.size ≤ 2560
  · refine Ev.congr (f := fun k => ambryref19_Cut.l0 k s (chunksB s 0) ((160 * 0 : Nat) : Int)) (fun k => ?_) (ev_val (rcut_loop s h (countB s) 0 (by omega)) ?_)
    · unfold ambryref19_Cut.f
      rw [if_neg (by omega)]
      rfl
    · unfold CutR
      rw [if_pos h]
  · refine Ev.congr (f := fun _ => some ([], 5)) (fun k => by unfold ambryref19_Cut.f; rw [if_pos (by omega)]) (ev_val (Ev.now _) ?_)
    unfold CutR
    rw [if_neg h]
/-! ### are texts the same? -/
open Classical in
theorem rsame_loop (a b : List ByteArray) (hl : a.length = b.length) (hn : a.length ≤ 4398046510976) : ∀ (d i : Nat), i + d = a.length → Ev (fun k => ambryref19_Same.l0 k a b (i : Int)) (decide (∀ (j : Nat) (h : j < a.length) (h2 : j < b.length), i ≤ j → a[j] = b[j])) := by
  intro d
  induction d with
  | zero =>
    intro i hi
    exact Ev.step (f := fun _ => some true) (fun k => by rw [ambryref19_Same.l0, if_neg (by omega)]) (ev_val (Ev.now _) (decide_eq_true (fun j h h2 hj => by omega)).symm)
  | succ d ih =>
    intro i hi
    have hlt : i < a.length := by omega
    have hlt2 : i < b.length := by omega
    have q1 : (i : Int) < (a.length : Int) := by omega
    have q2 : (0 : Int) ≤ (i : Int) := by omega
    have q3 : (i : Int) < (b.length : Int) := by omega
    by_cases h0 : a[i] = b[i]
    · refine Ev.step (f := fun k => ambryref19_Same.l0 k a b ((i + 1 : Nat) : Int)) (fun k => ?_) (ev_val (ih (i + 1) (by omega)) ?_)
      · have hw1 : wrap64 ((i : Int) + 1) = ((i + 1 : Nat) : Int) := by rw [wrap_ok _ (by omega) (by omega)]; rfl
        rw [ambryref19_Same.l0, if_pos q1, if_pos q2, if_pos q3, rdOf_at a i hlt, rdOf_at b i hlt2, if_pos (by rw [h0]), hw1]
      · rw [decide_eq_decide]
        constructor
        · intro h j hj hj2 hij
          by_cases e : j = i
          · subst e
            exact h0
          · exact h j hj hj2 (by omega)
        · intro h j hj hj2 hij
          exact h j hj hj2 (by omega)
    · refine Ev.step (f := fun _ => some false) (fun k => ?_) (ev_val (Ev.now _) (decide_eq_false (fun h => h0 (h i hlt hlt2 (Nat.le_refl _)))).symm)
      rw [ambryref19_Same.l0, if_pos q1, if_pos q2, if_pos q3, rdOf_at a i hlt, rdOf_at b i hlt2, if_neg (fun h => h0 ((toList_iff _ _).1 h))]
open Classical in
theorem rsame_ev (a b : List ByteArray) (hn : a.length ≤ 4398046510976) : Ev (fun k => ambryref19_Same.f k a b) (decide (a = b)) := by
  unfold ambryref19_Same.f
  by_cases h : a.length = b.length
  · refine Ev.congr (f := fun k => ambryref19_Same.l0 k a b ((0 : Nat) : Int)) (fun k => by rw [if_pos (by omega)]; rfl) (ev_val (rsame_loop a b h hn a.length 0 (by omega)) ?_)
    rw [decide_eq_decide]
    constructor
    · intro h2
      exact List.ext_getElem h (fun j h3 h4 => h2 j h3 h4 (Nat.zero_le _))
    · rintro rfl j h3 h4 _
      rfl
  · exact Ev.congr (f := fun _ => some false) (fun k => by rw [if_neg (by omega)]) (ev_val (Ev.now _) (decide_eq_false (fun e => h (by rw [e]))).symm)
/-! ### texts, one behind the other, as far as they may be a body -/
def WholeR : List ByteArray → ByteArray → ByteArray
  | [], s => s
  | x :: l, s => if s.size ≤ 2560 then WholeR l (s ++ x) else s
theorem rwhole_loop (l : List ByteArray) (hn : l.length ≤ 4398046510976) (hx : ∀ (j : Nat) (h : j < l.length), l[j].size ≤ 10000) : ∀ (d i : Nat) (s : ByteArray), i + d = l.length → Ev (fun k => ambryref19_Whole.l0 k l s (i : Int)) (WholeR (l.drop i) s) := by
  intro d
  induction d with
  | zero =>
    intro i s hi
    obtain rfl : i = l.length := by omega
    rw [List.drop_length]
    exact Ev.step (f := fun _ => some s) (fun k => by rw [ambryref19_Whole.l0, if_neg (by omega)]) (Ev.now _)
  | succ d ih =>
    intro i s hi
    have hlt : i < l.length := by omega
    have q1 : (i : Int) < (l.length : Int) := by omega
    have q2 : (0 : Int) ≤ (i : Int) := by omega
    rw [List.drop_eq_getElem_cons hlt]
    unfold WholeR
    by_cases hs : s.size ≤ 2560
    · rw [if_pos hs]
      have q3 : (s.size : Int) ≤ 2560 := by omega
      have q4 : s.size + l[i].size ≤ 9223372036854775807 := by have := hx i hlt; omega
      refine Ev.step (fun k => ?_) (ih (i + 1) (s ++ l[i]) (by omega))
      have hw1 : wrap64 ((i : Int) + 1) = ((i + 1 : Nat) : Int) := by rw [wrap_ok _ (by omega) (by omega)]; rfl
      rw [ambryref19_Whole.l0, if_pos q1, if_pos q3, if_pos q2, rdOf_at l i hlt, if_pos q4, hw1]
    · rw [if_neg hs]
      exact Ev.step (f := fun _ => some s) (fun k => by rw [ambryref19_Whole.l0, if_pos q1, if_neg (by omega)]) (Ev.now _)
theorem rwhole_ev (l : List ByteArray) (hn : l.length ≤ 4398046510976) (hx : ∀ (j : Nat) (h : j < l.length), l[j].size ≤ 10000) : Ev (fun k => ambryref19_Whole.f k l) (WholeR l ⟨#[]⟩) := by
  have h := rwhole_loop l hn hx l.length 0 ⟨#[]⟩ (by omega)
  rw [List.drop_zero] at h
  exact h
theorem whole_size (l : List ByteArray) (hx : ∀ x ∈ l, x.size ≤ 10000) : ∀ s : ByteArray, s.size ≤ 12560 → (WholeR l s).size ≤ 12560 := by
  induction l with
  | nil => exact fun s hs => hs
  | cons x l ih =>
    intro s hs
    unfold WholeR
    by_cases h : s.size ≤ 2560
    · rw [if_pos h]
      exact ih (fun y hy => hx y (List.mem_cons_of_mem _ hy)) _ (by rw [ByteArray.size_append]; have := hx x (by simp); omega)
    · rw [if_neg h]
      exact hs
theorem whole_all (l : List ByteArray) : ∀ s : ByteArray, s.size + lensB l ≤ 2560 → WholeR l s = s ++ JoinB l := by
  induction l with
  | nil =>
    intro s _
    apply ByteArray.ext
    apply Array.toList_inj.1
    rw [ByteArray.toList_data_append]
    simp [WholeR, JoinB, catB]
  | cons x l ih =>
    intro s hs
    have e : lensB (x :: l) = x.size + lensB l := by simp [lensB]
    unfold WholeR
    rw [if_pos (by omega), ih (s ++ x) (by rw [ByteArray.size_append]; omega)]
    apply ByteArray.ext
    apply Array.toList_inj.1
    rw [ByteArray.toList_data_append, ByteArray.toList_data_append, ByteArray.toList_data_append]
    simp [JoinB, catB]
/-! ### chunks joined and cut again -/
theorem formed_sums (l : List ByteArray) (hf : Formed l) : ∀ j, j < l.length → lensB (l.take j) = 160 * j := by
  intro j
  induction j with
  | zero => intro _; simp [lensB]
  | succ j ih =>
    intro hj
    have h1 := lensB_take l j (by omega)
    have h2 := (hf j (by omega)).2.2 hj
    have h3 := ih (by omega)
    omega
theorem formed_len (l : List ByteArray) (hf : Formed l) : lensB l ≤ 160 * l.length ∧ (l.length ≠ 0 → 160 * (l.length - 1) < lensB l) := by
  by_cases h : l.length = 0
  · have : l = [] := List.length_eq_zero_iff.1 h
    subst this
    exact ⟨by simp [lensB], fun q => absurd rfl q⟩
  · have h1 := formed_sums l hf (l.length - 1) (by omega)
    have h2 := lensB_take l (l.length - 1) (by omega)
    have h3 := hf (l.length - 1) (by omega)
    rw [show l.length - 1 + 1 = l.length by omega, List.take_length] at h2
    exact ⟨by omega, fun _ => by omega⟩
theorem catB_app (a b : List ByteArray) : catB (a ++ b) = catB a ++ catB b := by simp [catB]
theorem catB_cons (x : ByteArray) (b : List ByteArray) : catB (x :: b) = x.data.toList ++ catB b := by simp [catB]
theorem catB_split (l : List ByteArray) (j : Nat) (h : j < l.length) : catB l = catB (l.take j) ++ (l[j].data.toList ++ catB (l.drop (j + 1))) := by
  have e : l = l.take j ++ (l[j] :: l.drop (j + 1)) := by
    rw [← List.drop_eq_getElem_cons h, List.take_append_drop]
  have h1 := congrArg catB e
  rw [catB_app, catB_cons] at h1
  exact h1
theorem chunks_join (l : List ByteArray) (hf : Formed l) : chunksB (JoinB l) (countB (JoinB l)) = l := by
  have hfl := formed_len l hf
  have hcount : countB (JoinB l) = l.length := by
    unfold countB
    rw [JoinB_size]
    omega
  rw [hcount]
  refine List.ext_getElem (by simp [chunksB]) (fun j h1 h2 => ?_)
  have hg : (chunksB (JoinB l) l.length)[j] = chunkB (JoinB l) j := by simp [chunksB]
  rw [hg]
  unfold chunkB
  apply ByteArray.ext
  apply Array.toList_inj.1
  rw [ByteArray.data_extract, Array.toList_extract, List.extract_eq_take_drop, JoinB_size]
  show List.take _ (List.drop _ (catB l)) = _
  have hs := formed_sums l hf j h2
  have hle := (hf j h2).2.1
  have hcl : (catB (l.take j)).length = 160 * j := by rw [catB_length, hs]
  have hll := lensB_take l j h2
  have hl2 := lensB_le l (j + 1)
  have hjd : l[j].data.toList.length = l[j].size := rfl
  have hmin : min (160 * j + 160) (lensB l) - 160 * j = l[j].data.toList.length := by
    rw [hjd]
    by_cases hj : j + 1 < l.length
    · have := (hf j h2).2.2 hj
      omega
    · have : l.take (j + 1) = l := List.take_of_length_le (by omega)
      rw [this] at hll
      omega
  rw [catB_split l j h2, ← hcl, List.drop_left, hcl, hmin, List.take_left]
/-! ### the check -/
open Classical in
noncomputable def CheckR (l : List ByteArray) (size : Int) (t : Int × Int) : Int := if l.length ≤ 16 ∧ Formed l ∧ (lensB l : Int) = size ∧ tagOf (bytesOf (JoinB l)) = t then 0 else 4
theorem checkR_yes {l : List ByteArray} {size : Int} {t : Int × Int} (h16 : l.length ≤ 16) (hF : Formed l) (hs : (lensB l : Int) = size) (ht : tagOf (bytesOf (JoinB l)) = t) : CheckR l size t = 0 := by
  unfold CheckR
  exact if_pos ⟨h16, hF, hs, ht⟩
theorem checkR_no {l : List ByteArray} {size : Int} {t : Int × Int} (h : ¬ (l.length ≤ 16 ∧ Formed l ∧ (lensB l : Int) = size ∧ tagOf (bytesOf (JoinB l)) = t)) : CheckR l size t = 4 := by
  unfold CheckR
  exact if_neg h
theorem check_ev (l : List ByteArray) (hf : Few l) (size t0 t1 : Int) : Ev (fun k => blob_Check.f k l size t0 t1) (CheckR l size (t0, t1)) := by
  classical
  have hn := hf.1
  have hlens := few_lens l hf
  by_cases h16 : l.length ≤ 16
  · refine Ev.congr (f := fun k => (blob_formed.f k l).bind fun t => (if t = true then ((strings_Join.f l (⟨#[]⟩ : ByteArray)).bind fun s => (if (s.size : Int) = size then (if s.size ≤ 9223372036854775807 then ((tag_Of.f (bytesOf s)).bind fun q => (if (q.1 == t0 && (q.2 == t1)) = true then (some 0) else (some 4))) else none) else (some 4))) else (some 4))) (fun k => by unfold blob_Check.f; rw [if_neg (by omega)]) (Ev.bind (formed_ev l (by omega)) ?_)
    by_cases hF : Formed l
    · have hj : strings_Join.f l (⟨#[]⟩ : ByteArray) = some (JoinB l) := by
        unfold strings_Join.f
        rw [if_pos ⟨rfl, by omega⟩]
        rfl
      have hz : (JoinB l).size ≤ 9223372036854775807 := by rw [JoinB_size]; omega
      have ht := tag_Of_is (bytesOf (JoinB l)) (bytes_are _) (by rw [bytesOf_length, JoinB_size]; omega)
      have hd : decide (Formed l) = true := decide_eq_true hF
      refine Ev.congr (f := fun _ => if ((JoinB l).size : Int) = size then (if ((tagOf (bytesOf (JoinB l))).1 == t0 && ((tagOf (bytesOf (JoinB l))).2 == t1)) = true then (some 0) else (some 4)) else (some 4)) (fun k => by rw [hd, if_pos rfl, hj, Option.bind_some, if_pos hz, ht, Option.bind_some]) ?_
      by_cases hs : ((JoinB l).size : Int) = size
      · refine Ev.congr (f := fun _ => if ((tagOf (bytesOf (JoinB l))).1 == t0 && ((tagOf (bytesOf (JoinB l))).2 == t1)) = true then (some 0) else (some 4)) (fun k => by rw [if_pos hs]) ?_
        have hs' : (lensB l : Int) = size := by rw [← JoinB_size]; exact hs
        by_cases hq : tagOf (bytesOf (JoinB l)) = (t0, t1)
        · have e : ((tagOf (bytesOf (JoinB l))).1 == t0 && ((tagOf (bytesOf (JoinB l))).2 == t1)) = true := by rw [hq]; simp
          exact Ev.congr (f := fun _ => some 0) (fun k => by rw [if_pos e]) (ev_val (Ev.now _) (checkR_yes h16 hF hs' hq).symm)
        · have e : ¬ ((tagOf (bytesOf (JoinB l))).1 == t0 && ((tagOf (bytesOf (JoinB l))).2 == t1)) = true := fun h => hq (by
            simp only [Bool.and_eq_true, beq_iff_eq] at h
            exact Prod.ext h.1 h.2)
          exact Ev.congr (f := fun _ => some 4) (fun k => by rw [if_neg e]) (ev_val (Ev.now _) (checkR_no (fun h => hq h.2.2.2)).symm)
      · exact Ev.congr (f := fun _ => some 4) (fun k => by rw [if_neg hs]) (ev_val (Ev.now _) (checkR_no (fun h => hs (by rw [JoinB_size]; exact h.2.2.1))).symm)
    · have hd : decide (Formed l) = false := decide_eq_false hF
      exact Ev.congr (f := fun _ => some 4) (fun k => by rw [hd]; rfl) (ev_val (Ev.now _) (checkR_no (fun h => hF h.2.1)).symm)
  · refine Ev.congr (f := fun _ => some 4) (fun k => by unfold blob_Check.f; rw [if_pos (by omega)]) (ev_val (Ev.now _) (checkR_no (fun h => h16 h.1)).symm)
theorem whole_formed (l : List ByteArray) (h16 : l.length ≤ 16) (hF : Formed l) : WholeR l ⟨#[]⟩ = JoinB l ∧ lensB l ≤ 2560 := by
  have h1 := formed_len l hF
  have h2 : lensB l ≤ 2560 := by omega
  refine ⟨?_, h2⟩
  have e0 : (⟨#[]⟩ : ByteArray).size = 0 := rfl
  rw [whole_all l _ (by rw [e0]; omega)]
  apply ByteArray.ext
  apply Array.toList_inj.1
  rw [ByteArray.toList_data_append]
  simp
theorem cut_same (s : ByteArray) (l : List ByteArray) (hs : s.size ≤ 2560) (h : chunksB s (countB s) = l) : l.length ≤ 16 ∧ Formed l ∧ JoinB l = s := by
  have hc : countB s = (s.size + 159) / 160 := rfl
  have e : partB s 0 (countB s) = l := by
    rw [← h]
    unfold partB chunksB
    rw [List.range_eq_range']
  have hl : l.length = countB s := by rw [← e, partB_length]
  refine ⟨by rw [hl, hc]; omega, by rw [← e]; exact partB_formed s 0 (countB s) (by omega), ?_⟩
  rw [← e, partB_join s 0 (countB s) (by omega)]
  have m1 : min (160 * (0 + countB s)) s.size = s.size := by rw [hc]; omega
  rw [m1]
  apply ByteArray.ext
  rw [ByteArray.data_extract]
  exact Array.extract_size
theorem rcheck_ev (l : List ByteArray) (hf : Few l) (size t0 t1 : Int) : Ev (fun k => ambryref19_Check.f k l size t0 t1) (CheckR l size (t0, t1)) := by
  classical
  have hn := hf.1
  have hmem : ∀ x ∈ l, x.size ≤ 10000 := by
    intro x hx
    obtain ⟨j, hj, rfl⟩ := List.getElem_of_mem hx
    exact hf.2 j hj
  have hws : (WholeR l ⟨#[]⟩).size ≤ 12560 := whole_size l hmem _ (by show 0 ≤ _; omega)
  refine Ev.congr (fun k => rfl) (Ev.bind (rwhole_ev l (by omega) hf.2) (Ev.bind (rcut_ev _ (by omega)) ?_))
  obtain ⟨s, hsd⟩ : ∃ s, WholeR l ⟨#[]⟩ = s := ⟨_, rfl⟩
  rw [hsd] at hws ⊢
  by_cases hs : s.size ≤ 2560
  · have hcr : CutR s = (chunksB s (countB s), 0) := by unfold CutR; rw [if_pos hs]
    have hcl : (chunksB s (countB s)).length ≤ 4398046510976 := by
      have : (chunksB s (countB s)).length = (s.size + 159) / 160 := by simp [chunksB, countB]
      omega
    refine Ev.congr (f := fun k => (ambryref19_Same.f k (chunksB s (countB s)) l).bind fun t207 => (if t207 = true then (if (s.size : Int) = size then ((ambryref03_Of.f k s).bind fun bt208 => (if (!(bt208.1 == t0) || (!(bt208.2 == t1))) = true then (some 4) else (some 0))) else (some 4)) else (some 4))) (fun k => by rw [hcr, if_pos rfl]) (Ev.bind (rsame_ev _ l hcl) ?_)
    by_cases hc : chunksB s (countB s) = l
    · obtain ⟨h16, hF, hj⟩ := cut_same s l hs hc
      have hjs : s.size = lensB l := by rw [← hj, JoinB_size]
      have hd : decide (chunksB s (countB s) = l) = true := decide_eq_true hc
      by_cases hz : (s.size : Int) = size
      · refine Ev.congr (f := fun k => (ambryref03_Of.f k s).bind fun bt208 => (if (!(bt208.1 == t0) || (!(bt208.2 == t1))) = true then (some 4) else (some 0))) (fun k => by rw [hd, if_pos rfl, if_pos hz]) (Ev.bind (rof_ev s (by omega)) ?_)
        by_cases hq : tagOf (bytesOf s) = (t0, t1)
        · have e : ¬ (!((tagOf (bytesOf s)).1 == t0) || (!((tagOf (bytesOf s)).2 == t1))) = true := by rw [hq]; simp
          exact Ev.congr (f := fun _ => some 0) (fun k => by rw [if_neg e]) (ev_val (Ev.now _) (checkR_yes h16 hF (by omega) (by rw [hj]; exact hq)).symm)
        · have e : (!((tagOf (bytesOf s)).1 == t0) || (!((tagOf (bytesOf s)).2 == t1))) = true := by
            by_cases a : (tagOf (bytesOf s)).1 = t0
            · by_cases b : (tagOf (bytesOf s)).2 = t1
              · exact absurd (Prod.ext a b) hq
              · have : ((tagOf (bytesOf s)).2 == t1) = false := beq_eq_false_iff_ne.2 b
                rw [this]
                simp
            · have : ((tagOf (bytesOf s)).1 == t0) = false := beq_eq_false_iff_ne.2 a
              rw [this]
              rfl
          exact Ev.congr (f := fun _ => some 4) (fun k => by rw [if_pos e]) (ev_val (Ev.now _) (checkR_no (fun h => hq (by have := h.2.2.2; rw [hj] at this; exact this))).symm)
      · exact Ev.congr (f := fun _ => some 4) (fun k => by rw [hd, if_pos rfl, if_neg hz]) (ev_val (Ev.now _) (checkR_no (fun h => hz (by have := h.2.2.1; omega))).symm)
    · have hd : decide (chunksB s (countB s) = l) = false := decide_eq_false hc
      refine Ev.congr (f := fun _ => some 4) (fun k => by rw [hd]; rfl) (ev_val (Ev.now _) (checkR_no ?_).symm)
      rintro ⟨h16, hF, _, _⟩
      obtain ⟨e, _⟩ := whole_formed l h16 hF
      rw [hsd] at e
      rw [e] at hc
      exact hc (chunks_join l hF)
  · have hcr : CutR s = ([], 5) := by unfold CutR; rw [if_neg hs]
    refine Ev.congr (f := fun _ => some 4) (fun k => by rw [hcr]; rfl) (ev_val (Ev.now _) (checkR_no ?_).symm)
    rintro ⟨h16, hF, _, _⟩
    obtain ⟨e, h2⟩ := whole_formed l h16 hF
    rw [hsd] at e
    rw [e, JoinB_size] at hs
    exact hs h2
end Go.Proofs.Ytlbfegnmkddlbaa.A
