/- What the document's decoder of keys tells: the same as the program's. -/
import Derived.Test.YthcfkilofgfgpaaM8
import Derived.Test.YthcfkilofgfgpaaM7
import Derived.Test.YthcfkilofgfgpaaAx11
namespace Go.Proofs.Ythcfkilofgfgpaa.A
open Go.RowKit Go.Proofs.YthcfkilofgfgpaaW.PrintWords Go.Proofs.YthcfkilofgfgpaaW.PrintLast Go.Proofs.YthcfkilofgfgpaaW.PrintMore
set_option linter.unusedVariables false
set_option linter.unusedSimpArgs false
theorem val_snoc (l : List Int) (c : Int) : val (l ++ [c]) = val l * 256 + c := by simp [val]
theorem val_small : ∀ (l : List Int), (∀ x ∈ l, IsByte x) → l.length < 8 → 0 ≤ val l ∧ val l < 72057594037927936 := by
  intro l hb hl
  have key : ∀ (n : Nat) (l : List Int), l.length = n → (∀ x ∈ l, IsByte x) → 0 ≤ val l ∧ val l < 256 ^ n := by
    intro n
    induction n with
    | zero =>
      intro l h _
      rw [List.eq_nil_of_length_eq_zero h]
      exact ⟨by decide, by decide⟩
    | succ n ih =>
      intro l h hb
      have hne : l ≠ [] := fun e => by rw [e] at h; simp at h
      have e := List.dropLast_concat_getLast hne
      obtain ⟨h0, h1⟩ := ih l.dropLast (by rw [List.length_dropLast, h]; rfl) (fun x hx => hb x ((List.dropLast_sublist l).subset hx))
      obtain ⟨c0, c1⟩ := hb _ (List.getLast_mem hne)
      rw [← e, val_snoc, Int.pow_succ]
      constructor
      · omega
      · omega
  obtain ⟨h0, h1⟩ := key l.length l rfl hb
  refine ⟨h0, Int.lt_of_lt_of_le h1 ?_⟩
  have h7 : l.length = 0 ∨ l.length = 1 ∨ l.length = 2 ∨ l.length = 3 ∨ l.length = 4 ∨ l.length = 5 ∨ l.length = 6 ∨ l.length = 7 := by omega
  rcases h7 with h | h | h | h | h | h | h | h <;> rw [h] <;> decide
theorem number_told (s : ByteArray) (hs : s.size = 8) : Ev (fun k => ambryref01_Number.f k s 0 8) (wrap64 (val (bytesOf s))) := by
  have hl : (bytesOf s).length = 8 := by rw [bytesOf_length, hs]
  have key : ∀ (d i : Nat), i + d = 8 → Ev (fun k => ambryref01_Number.l0 k s 0 8 (val ((bytesOf s).take i)) (i : Int)) (wrap64 (val (bytesOf s))) := by
    intro d
    induction d with
    | zero =>
      intro i hi
      rw [List.take_of_length_le (by omega)]
      exact Ev.step (f := fun _ => some (wrap64 (val (bytesOf s)))) (fun k => by rw [ambryref01_Number.l0, if_neg (by omega)]) (Ev.now _)
    | succ d ih =>
      intro i hi
      have hlt : i < s.size := by omega
      have hw : wrap64 (0 + (i : Int)) = (i : Int) := by rw [wrap_ok _ (by omega) (by omega)]; omega
      have hw1 : wrap64 ((i : Int) + 1) = ((i + 1 : Nat) : Int) := by rw [wrap_ok _ (by omega) (by omega)]; omega
      obtain ⟨h0, h1⟩ := val_small ((bytesOf s).take i) (fun x hx => bytes_are s x (List.mem_of_mem_take hx)) (by rw [List.length_take]; omega)
      refine Ev.step (f := fun k => ambryref01_Number.l0 k s 0 8 (val ((bytesOf s).take (i + 1))) ((i + 1 : Nat) : Int)) (fun k => ?_) (ih (i + 1) (by omega))
      rw [ambryref01_Number.l0, if_pos (by omega), hw, if_pos (by omega), if_pos (by omega), hw1, or_step _ _ h0 h1 (bt_range s (i : Int)), bytes_take s i hlt, val_snoc]
  exact key 8 0 rfl
theorem val_cons8 (a b c d e f g i : Int) : val [a, b, c, d, e, f, g, i] = a * 72057594037927936 + val [b, c, d, e, f, g, i] := by
  simp only [val, List.foldl]
  omega
theorem turn0_val {l : List Int} (h : l.length = 8) (hb : ∀ x ∈ l, IsByte x) : wrap64 (val (turn0 l)) = val l - 9223372036854775808 := by
  obtain ⟨h0, h1⟩ := val_range h hb
  obtain ⟨a, b, c, d, e, f, g, i, rfl⟩ := eight h
  have ha := hb a (by simp)
  have e1 : turn0 [a, b, c, d, e, f, g, i] = [bits .xor .u8 a 128, b, c, d, e, f, g, i] := rfl
  obtain ⟨s0, s1⟩ := val_small [b, c, d, e, f, g, i] (fun x hx => hb x (List.mem_cons_of_mem _ hx)) (by simp)
  rw [e1, (xor8 ha).2.1, val_cons8, val_cons8]
  unfold IsByte at ha
  unfold wrap64
  omega
theorem turn0_bytes {l : List Int} (h : l.length = 8) (hb : ∀ x ∈ l, IsByte x) : (∀ x ∈ turn0 l, IsByte x) ∧ (turn0 l).length = 8 := by
  obtain ⟨a, b, c, d, e, f, g, i, rfl⟩ := eight h
  have ha := hb a (by simp)
  have e1 : turn0 [a, b, c, d, e, f, g, i] = [bits .xor .u8 a 128, b, c, d, e, f, g, i] := rfl
  rw [e1, (xor8 ha).2.1]
  refine ⟨fun x hx => ?_, rfl⟩
  rcases List.mem_cons.1 hx with rfl | hx
  · unfold IsByte; omega
  · exact hb x (List.mem_cons_of_mem _ hx)
theorem numb_ev {l : List Int} (h : l.length = 8) (hb : ∀ x ∈ l, IsByte x) : Ev (fun k => ambryref01_Number.f k (strOfNums (turn0 l)) 0 8) (val l - 9223372036854775808) := by
  obtain ⟨h1, h2⟩ := turn0_bytes h hb
  have hs : (strOfNums (turn0 l)).size = 8 := by rw [strOfNums_size, h2]
  refine ev_val (number_told _ hs) ?_
  rw [bytes_of_nums _ h1, turn0_val h hb]
theorem bt_head (s : ByteArray) (c : Int) (l : List Int) (h : bytesOf s = c :: l) : bt s 0 = c := by
  rw [← rd_bytesOf, h]
  rfl
theorem bytes_extract (s : ByteArray) (i : Nat) : bytesOf (s.extract i s.size) = (bytesOf s).drop i := by
  have e : (s.extract i s.size).data.toList = s.data.toList.drop i := by
    rw [ByteArray.data_extract, Array.toList_extract, List.extract_eq_take_drop]
    exact List.take_of_length_le (by rw [List.length_drop]; exact Nat.le_refl _)
  unfold bytesOf
  rw [e, List.map_drop]
theorem bytes_nine (s : ByteArray) (h : 9 ≤ s.size) : bytesOf (s.extract 1 9) = ((bytesOf s).drop 1).take 8 := bytes_sub s 1 (by omega)
theorem turnF_is {l : List Int} (h : ∀ x ∈ l, IsByte x) : l.map turnF = l.map neg := by
  apply List.map_congr_left
  intro x hx
  obtain ⟨h0, h1⟩ := h x hx
  unfold turnF neg
  omega
/-- The part with which bytes begin, and how many it has; 0: there is none. -/
def firstP (B : List Int) : Int × Int × ByteArray × Int :=
  match B with
  | [] => (0, 0, ⟨#[]⟩, 0)
  | c :: l =>
    if c = 2 then (match scanT l with | none => (0, 0, ⟨#[]⟩, 0) | some p => (1, 0, strOfNums p.1, (p.2 : Int) + 1))
    else if c = 3 then (if l.length < 8 then (0, 0, ⟨#[]⟩, 0) else (2, numOf 0 (l.take 8), ⟨#[]⟩, 9))
    else if c = 4 then (if l.length < 8 then (0, 0, ⟨#[]⟩, 0) else (3, numOf 255 (l.take 8), ⟨#[]⟩, 9))
    else (0, 0, ⟨#[]⟩, 0)
theorem first_ev (s : ByteArray) (h0 : 0 < s.size) (h1 : s.size ≤ 128) : Ev (fun k => ambryref02_first.f k s) (firstP (bytesOf s)) := by
  obtain ⟨c, l, hB⟩ : ∃ c l, bytesOf s = c :: l := by
    cases h : bytesOf s with
    | nil => have := congrArg List.length h; rw [bytesOf_length, List.length_nil] at this; omega
    | cons c l => exact ⟨c, l, rfl⟩
  have hc := bt_head s c l hB
  have hl : l.length + 1 = s.size := by rw [← bytesOf_length, hB]; rfl
  have hb : ∀ x ∈ l, IsByte x := fun x hx => bytes_are s x (by rw [hB]; exact List.mem_cons_of_mem _ hx)
  have hd : (bytesOf s).drop 1 = l := by rw [hB]; rfl
  have head : ∀ k, ambryref02_first.f k s = (if c = 3 then (if s.size < 9 then some (0, 0, (⟨#[]⟩ : ByteArray), 0) else (ambryref01_Number.f k (strOfNums (turn0 (bytesOf (s.extract 1 9)))) 0 8).bind fun n => some (2, n, (⟨#[]⟩ : ByteArray), 9))
    else if c = 4 then (if s.size < 9 then some (0, 0, (⟨#[]⟩ : ByteArray), 0) else (ambryref01_Number.f k (strOfNums (turn0 ((bytesOf (s.extract 1 9)).map turnF))) 0 8).bind fun n => some (3, n, (⟨#[]⟩ : ByteArray), 9))
    else if c = 2 then (match scanT ((bytesOf s).drop 1) with | none => some (0, 0, (⟨#[]⟩ : ByteArray), 0) | some p => some (1, 0, strOfNums p.1, (p.2 : Int) + 1))
    else some (0, 0, (⟨#[]⟩ : ByteArray), 0) : Option (Int × Int × ByteArray × Int)) := fun k => by
    unfold ambryref02_first.f
    rw [if_pos ⟨h0, by omega⟩, hc]
    rfl
  rw [hB]
  unfold firstP
  simp only
  by_cases h3 : c = 3
  · rw [if_neg (by omega), if_pos h3]
    by_cases h8 : l.length < 8
    · rw [if_pos h8]
      exact Ev.congr (f := fun _ => some (0, 0, (⟨#[]⟩ : ByteArray), 0)) (fun k => by rw [head, if_pos h3, if_pos (by omega)]) (Ev.now _)
    · rw [if_neg h8]
      have h8l : (l.take 8).length = 8 := by rw [List.length_take]; omega
      have h8b : ∀ x ∈ l.take 8, IsByte x := fun x hx => hb x (List.mem_of_mem_take hx)
      refine Ev.congr (f := fun k => (ambryref01_Number.f k (strOfNums (turn0 (l.take 8))) 0 8).bind fun n => some (2, n, (⟨#[]⟩ : ByteArray), 9)) (fun k => by rw [head, if_pos h3, if_neg (by omega), bytes_nine s (by omega), hd]) ?_
      rw [numOf_0 h8l h8b]
      exact Ev.bind (numb_ev h8l h8b) (Ev.now _)
  by_cases h4 : c = 4
  · rw [if_neg (by omega), if_neg h3, if_pos h4]
    by_cases h8 : l.length < 8
    · rw [if_pos h8]
      exact Ev.congr (f := fun _ => some (0, 0, (⟨#[]⟩ : ByteArray), 0)) (fun k => by rw [head, if_neg h3, if_pos h4, if_pos (by omega)]) (Ev.now _)
    · rw [if_neg h8]
      have h8l : (l.take 8).length = 8 := by rw [List.length_take]; omega
      have h8b : ∀ x ∈ l.take 8, IsByte x := fun x hx => hb x (List.mem_of_mem_take hx)
      refine Ev.congr (f := fun k => (ambryref01_Number.f k (strOfNums (turn0 ((l.take 8).map neg))) 0 8).bind fun n => some (3, n, (⟨#[]⟩ : ByteArray), 9)) (fun k => by rw [head, if_neg h3, if_pos h4, if_neg (by omega), bytes_nine s (by omega), hd, turnF_is h8b]) ?_
      rw [numOf_255 h8l h8b]
      exact Ev.bind (numb_ev (by simpa using h8l) (neg_bytes h8b)) (Ev.now _)
  by_cases h2 : c = 2
  · rw [if_pos h2]
    refine Ev.congr (f := fun _ => some (match scanT l with | none => (0, 0, ⟨#[]⟩, 0) | some p => (1, 0, strOfNums p.1, (p.2 : Int) + 1))) (fun k => ?_) (Ev.now _)
    rw [head, if_neg h3, if_neg h4, if_pos h2, hd]
    cases scanT l <;> rfl
  · rw [if_neg h2, if_neg h3, if_neg h4]
    exact Ev.congr (f := fun _ => some (0, 0, (⟨#[]⟩ : ByteArray), 0)) (fun k => by rw [head, if_neg h3, if_neg h4, if_neg h2]) (Ev.now _)
theorem firstP_parts (c : Int) (l : List Int) : partsOf (c :: l) = if (firstP (c :: l)).2.2.2 = 0 then none else (partsOf ((c :: l).drop (firstP (c :: l)).2.2.2.toNat)).map ((⟨(firstP (c :: l)).1, (firstP (c :: l)).2.1, (firstP (c :: l)).2.2.1⟩ : S46) :: ·) := by
  rw [partsOf_cons]
  unfold firstP
  simp only
  by_cases h2 : c = 2
  · rw [if_pos h2, if_pos h2]
    unfold textOn
    cases scanT l with
    | none => rfl
    | some p =>
      show _ = if ((p.2 : Int) + 1 = 0) then none else _
      rw [if_neg (by omega)]
      have : ((p.2 : Int) + 1).toNat = p.2 + 1 := by omega
      simp only [this, List.nil_append]
      rfl
  rw [if_neg h2, if_neg h2]
  by_cases h3 : c = 3
  · rw [if_pos h3, if_pos h3]
    by_cases h8 : l.length < 8
    · rw [if_pos h8, if_pos h8]; rfl
    · rw [if_neg h8, if_neg h8]; rfl
  rw [if_neg h3, if_neg h3]
  by_cases h4 : c = 4
  · rw [if_pos h4, if_pos h4]
    by_cases h8 : l.length < 8
    · rw [if_pos h8, if_pos h8]; rfl
    · rw [if_neg h8, if_neg h8]; rfl
  rw [if_neg h4, if_neg h4]
  rfl
theorem firstP_le (c : Int) (l : List Int) (h : (firstP (c :: l)).2.2.2 ≠ 0) : 0 < (firstP (c :: l)).2.2.2 ∧ (firstP (c :: l)).2.2.2 ≤ ((l.length + 1 : Nat) : Int) := by
  unfold firstP at h ⊢
  simp only at h ⊢
  by_cases h2 : c = 2
  · rw [if_pos h2] at h ⊢
    cases hs : scanT l with
    | none => rw [hs] at h; exact absurd rfl h
    | some p =>
      have := scanT_le l.length l p (Nat.le_refl _) hs
      show (0 : Int) < (p.2 : Int) + 1 ∧ (p.2 : Int) + 1 ≤ _
      omega
  rw [if_neg h2] at h ⊢
  by_cases h3 : c = 3
  · rw [if_pos h3] at h ⊢
    by_cases h8 : l.length < 8
    · rw [if_pos h8] at h; exact absurd rfl h
    · rw [if_neg h8]
      show (0 : Int) < 9 ∧ (9 : Int) ≤ _
      omega
  rw [if_neg h3] at h ⊢
  by_cases h4 : c = 4
  · rw [if_pos h4] at h ⊢
    by_cases h8 : l.length < 8
    · rw [if_pos h8] at h; exact absurd rfl h
    · rw [if_neg h8]
      show (0 : Int) < 9 ∧ (9 : Int) ≤ _
      omega
  rw [if_neg h4] at h
  exact absurd rfl h
theorem rdecode_loop : ∀ (n : Nat) (s : ByteArray) (acc : List S46), s.size ≤ n → s.size ≤ 128 → acc.length + s.size ≤ 1000 →
    Ev (fun k => ambryref02_Decode.l0 k s acc) (match partsOf (bytesOf s) with | none => ([], 4) | some L => (acc ++ L, 0)) := by
  intro n
  induction n with
  | zero =>
    intro s acc hn hm ha
    rw [List.eq_nil_of_length_eq_zero (l := bytesOf s) (by rw [bytesOf_length]; omega)]
    refine Ev.step (f := fun _ => some (acc, 0)) (fun k => by rw [ambryref02_Decode.l0, if_neg (by omega)]) (ev_val (Ev.now _) ?_)
    rw [partsOf_nil]
    simp
  | succ n ih =>
    intro s acc hn hm ha
    by_cases hz : s.size = 0
    · exact (ih s acc (by omega) hm ha)
    obtain ⟨c, l, hB⟩ : ∃ c l, bytesOf s = c :: l := by
      cases h : bytesOf s with
      | nil => have := congrArg List.length h; rw [bytesOf_length, List.length_nil] at this; omega
      | cons c l => exact ⟨c, l, rfl⟩
    have hl : l.length + 1 = s.size := by rw [← bytesOf_length, hB]; rfl
    refine Ev.step (f := fun k => (ambryref02_first.f k s).bind fun q => (if q.2.2.2 = 0 then (some (([] : List (S46)), 4)) else (if acc.length < 4398046511104 then (if 0 ≤ q.2.2.2 then (if q.2.2.2 ≤ (s.size : Int) then (ambryref02_Decode.l0 k (s.extract (q.2.2.2 : Int).toNat s.size) (acc ++ [(⟨q.1, q.2.1, q.2.2.1⟩ : S46)])) else (none)) else (none)) else (none)))) (fun k => by rw [ambryref02_Decode.l0, if_pos (by omega)]) ?_
    refine Ev.bind (first_ev s (by omega) hm) ?_
    rw [hB, firstP_parts]
    by_cases h0 : (firstP (c :: l)).2.2.2 = 0
    · rw [if_pos h0]
      exact Ev.congr (f := fun _ => some ([], 4)) (fun k => by rw [if_pos h0]) (Ev.now _)
    · rw [if_neg h0]
      obtain ⟨f0, f1⟩ := firstP_le c l h0
      obtain ⟨m, hm'⟩ : ∃ m : Nat, (firstP (c :: l)).2.2.2 = (m : Int) := ⟨(firstP (c :: l)).2.2.2.toNat, by omega⟩
      have hx : (s.extract m s.size).size = s.size - m := by rw [← bytesOf_length, bytes_extract, List.length_drop, bytesOf_length]
      refine Ev.congr (f := fun k => ambryref02_Decode.l0 k (s.extract m s.size) (acc ++ [(⟨(firstP (c :: l)).1, (firstP (c :: l)).2.1, (firstP (c :: l)).2.2.1⟩ : S46)])) (fun k => by rw [if_neg h0, if_pos (by omega), if_pos (by omega), if_pos (by omega), hm', Int.toNat_natCast]) ?_
      have := ih (s.extract m s.size) (acc ++ [(⟨(firstP (c :: l)).1, (firstP (c :: l)).2.1, (firstP (c :: l)).2.2.1⟩ : S46)]) (by omega) (by omega) (by rw [List.length_append, List.length_singleton]; omega)
      rw [bytes_extract, hB] at this
      rw [hm', Int.toNat_natCast]
      refine ev_val this ?_
      cases partsOf ((c :: l).drop m) with
      | none => rfl
      | some L => simp
theorem rdecode_ev (s : ByteArray) : Ev (fun k => ambryref02_Decode.f k s) (Dec s) := by
  by_cases h : s.size ≤ 128
  · refine Ev.congr (f := fun k => ambryref02_Decode.l0 k s []) (fun k => by unfold ambryref02_Decode.f; rw [if_neg (by omega)]) (ev_val (rdecode_loop s.size s [] (Nat.le_refl _) h (by simp; omega)) ?_)
    unfold Dec
    rw [if_pos h]
    cases partsOf (bytesOf s) <;> rfl
  · refine Ev.congr (f := fun _ => some ([], 5)) (fun k => by unfold ambryref02_Decode.f; rw [if_pos (by omega)]) (ev_val (Ev.now _) ?_)
    unfold Dec
    rw [if_neg h]
end Go.Proofs.Ythcfkilofgfgpaa.A
