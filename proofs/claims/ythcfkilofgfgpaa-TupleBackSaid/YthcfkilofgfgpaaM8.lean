/- What is read of bytes as a key: the key that has just these bytes. -/
import Derived.Test.YthcfkilofgfgpaaM6
import Derived.Test.YthcfkilofgfgpaaAx10
namespace Go.Proofs.Ythcfkilofgfgpaa.A
open Go.RowKit Go.Proofs.YthcfkilofgfgpaaW.PrintWords Go.Proofs.YthcfkilofgfgpaaW.PrintLast Go.Proofs.YthcfkilofgfgpaaW.PrintMore
set_option linter.unusedVariables false
set_option linter.unusedSimpArgs false
theorem be_val (a b c d e f g h : Int) (ha : IsByte a) (hb : IsByte b) (hc : IsByte c) (hd : IsByte d) (he : IsByte e) (hf : IsByte f) (hg : IsByte g) (hh : IsByte h) : be (val [a, b, c, d, e, f, g, h]) = [a, b, c, d, e, f, g, h] := by
  unfold IsByte at *
  simp only [val, be, List.foldl]
  have e1 : (((((((0 * 256 + a) * 256 + b) * 256 + c) * 256 + d) * 256 + e) * 256 + f) * 256 + g) * 256 + h = a * 72057594037927936 + b * 281474976710656 + c * 1099511627776 + d * 4294967296 + e * 16777216 + f * 65536 + g * 256 + h := by omega
  rw [e1]
  simp only [List.cons.injEq, and_true]
  refine ⟨by omega, by omega, by omega, by omega, by omega, by omega, by omega, by omega⟩
theorem eight {l : List Int} (h : l.length = 8) : ∃ a b c d e f g i, l = [a, b, c, d, e, f, g, i] := by
  match l, h with
  | [a, b, c, d, e, f, g, i], _ => exact ⟨a, b, c, d, e, f, g, i, rfl⟩
theorem be_val8 {l : List Int} (h : l.length = 8) (hb : ∀ x ∈ l, IsByte x) : be (val l) = l := by
  obtain ⟨a, b, c, d, e, f, g, i, rfl⟩ := eight h
  exact be_val a b c d e f g i (hb _ (by simp)) (hb _ (by simp)) (hb _ (by simp)) (hb _ (by simp)) (hb _ (by simp)) (hb _ (by simp)) (hb _ (by simp)) (hb _ (by simp))
theorem val_range {l : List Int} (h : l.length = 8) (hb : ∀ x ∈ l, IsByte x) : 0 ≤ val l ∧ val l < 18446744073709551616 := by
  obtain ⟨a, b, c, d, e, f, g, i, rfl⟩ := eight h
  have ha := hb a (by simp)
  have h1 := hb b (by simp)
  have h2 := hb c (by simp)
  have h3 := hb d (by simp)
  have h4 := hb e (by simp)
  have h5 := hb f (by simp)
  have h6 := hb g (by simp)
  have h7 := hb i (by simp)
  unfold IsByte at *
  simp only [val, List.foldl]
  omega
theorem rd_fold (m : Int) (f : Int → Int) (hf : ∀ x, IsByte x → bits .xor .u8 x m = f x ∧ IsByte (f x)) : ∀ (l : List Int) (u : Int), (∀ x ∈ l, IsByte x) → 0 ≤ u → (u + 1) * 256 ^ l.length ≤ 18446744073709551616 →
    l.foldl (rdStep m) u = (l.map f).foldl (fun u c => u * 256 + c) u
  | [], _, _, _, _ => rfl
  | c :: l, u, hb, h0, hu => by
    obtain ⟨e, hfc⟩ := hf c (hb c List.mem_cons_self)
    have hp : (1 : Int) ≤ 256 ^ l.length := Int.add_one_le_of_lt (Int.pow_pos (by decide))
    simp only [List.length_cons, Int.pow_succ] at hu
    have h1 : (u + 1) * 256 ≤ 18446744073709551616 := by
      have : (u + 1) * 256 * 1 ≤ (u + 1) * 256 * 256 ^ l.length := Int.mul_le_mul_of_nonneg_left hp (by omega)
      have e3 : (u + 1) * (256 ^ l.length * 256) = (u + 1) * 256 * 256 ^ l.length := by rw [Int.mul_comm (256 ^ l.length) 256, Int.mul_assoc]
      omega
    have e2 : rdStep m u c = u * 256 + f c := by
      unfold rdStep
      rw [e, or_step u (f c) h0 (by omega) hfc]
    simp only [List.foldl_cons, List.map_cons, e2]
    unfold IsByte at hfc
    refine rd_fold m f hf l _ (fun x hx => hb x (List.mem_cons_of_mem _ hx)) (by omega) ?_
    have : (u * 256 + f c + 1) * 256 ^ l.length ≤ (u + 1) * 256 * 256 ^ l.length := Int.mul_le_mul_of_nonneg_right (by omega) (by omega)
    have e3 : (u + 1) * (256 ^ l.length * 256) = (u + 1) * 256 * 256 ^ l.length := by rw [Int.mul_comm (256 ^ l.length) 256, Int.mul_assoc]
    omega
theorem neg_byte {x : Int} (h : IsByte x) : IsByte (neg x) := by unfold neg; unfold IsByte at *; omega
theorem num_val (v : Int) (h0 : 0 ≤ v) (h1 : v < 18446744073709551616) : wrap64 (bits .xor .u64 v 9223372036854775808) = v - 9223372036854775808 := by
  rw [xor_top v h0 h1]
  unfold wrap64
  omega
theorem numOf_0 {l : List Int} (h : l.length = 8) (hb : ∀ x ∈ l, IsByte x) : numOf 0 l = val l - 9223372036854775808 := by
  unfold numOf rdAll
  rw [rd_fold 0 id (fun x hx => ⟨(xor8 hx).2.2, hx⟩) l 0 hb (by decide) (by rw [h]; decide), List.map_id]
  obtain ⟨h0, h1⟩ := val_range h hb
  exact num_val (val l) h0 h1
theorem numOf_255 {l : List Int} (h : l.length = 8) (hb : ∀ x ∈ l, IsByte x) : numOf 255 l = val (l.map neg) - 9223372036854775808 := by
  unfold numOf rdAll
  rw [rd_fold 255 neg (fun x hx => ⟨(xor8 hx).1, neg_byte hx⟩) l 0 hb (by decide) (by rw [h]; decide)]
  obtain ⟨h0, h1⟩ := val_range (l := l.map neg) (by simpa using h) (neg_bytes hb)
  exact num_val (val (l.map neg)) h0 h1
theorem num8_len (n : Int) : (num8 n).length = 8 := rfl
theorem num8_back (n : Int) (h0 : -9223372036854775808 ≤ n) (h1 : n ≤ 9223372036854775807) : numOf 0 (num8 n) = n ∧ numOf 255 ((num8 n).map neg) = n := by
  have e : val (num8 n) = n + 9223372036854775808 := val_be _ (by omega) (by omega)
  constructor
  · rw [numOf_0 (num8_len n) (num8_bytes n), e]
    omega
  · rw [numOf_255 (by simp [num8_len]) (neg_bytes (num8_bytes n)), neg_neg, e]
    omega
theorem numOf_back0 {l : List Int} (h : l.length = 8) (hb : ∀ x ∈ l, IsByte x) : num8 (numOf 0 l) = l := by
  rw [numOf_0 h hb]
  unfold num8
  rw [Int.sub_add_cancel]
  exact be_val8 h hb
theorem numOf_back255 {l : List Int} (h : l.length = 8) (hb : ∀ x ∈ l, IsByte x) : (num8 (numOf 255 l)).map neg = l := by
  rw [numOf_255 h hb]
  unfold num8
  rw [Int.sub_add_cancel, be_val8 (by simpa using h) (neg_bytes hb), neg_neg]
theorem numOf_range {m : Int} {l : List Int} (h : l.length = 8) (hb : ∀ x ∈ l, IsByte x) (hm : m = 0 ∨ m = 255) : -9223372036854775808 ≤ numOf m l ∧ numOf m l ≤ 9223372036854775807 := by
  rcases hm with rfl | rfl
  · rw [numOf_0 h hb]
    obtain ⟨h0, h1⟩ := val_range h hb
    omega
  · rw [numOf_255 h hb]
    obtain ⟨h0, h1⟩ := val_range (l := l.map neg) (by simpa using h) (neg_bytes hb)
    omega
theorem scan_esc : ∀ (t : List Int) (r : List Int), scanT (esc t ++ 0 :: 1 :: r) = some (t, (esc t).length + 2)
  | [], r => by
    show scanT (0 :: 1 :: r) = _
    rw [scanT, if_pos rfl, if_pos rfl]
    rfl
  | c :: t, r => by
    rw [esc_c]
    unfold esc1
    by_cases e : c = 0
    · subst e
      rw [if_pos rfl]
      show scanT (0 :: 255 :: (esc t ++ 0 :: 1 :: r)) = _
      rw [scanT, if_pos rfl, if_neg (by decide), if_pos rfl, scan_esc t r]
      simp
    · rw [if_neg e]
      show scanT (c :: (esc t ++ 0 :: 1 :: r)) = _
      rw [scanT_plain c _ e, scan_esc t r]
      simp
theorem scan_back : ∀ (n : Nat) (l t : List Int) (k : Nat), l.length ≤ n → scanT l = some (t, k) → l = esc t ++ 0 :: 1 :: l.drop k
  | 0, l, t, k, hn, h => by
    obtain rfl : l = [] := List.eq_nil_of_length_eq_zero (by omega)
    simp [scanT] at h
  | n + 1, [], t, k, hn, h => by simp [scanT] at h
  | n + 1, [_], t, k, hn, h => by simp [scanT] at h
  | n + 1, c :: d :: m, t, k, hn, h => by
    rw [scanT] at h
    simp only [List.length_cons] at hn
    by_cases hc : c = 0
    · rw [if_pos hc] at h
      by_cases hd : d = 1
      · rw [if_pos hd] at h
        simp only [Option.some.injEq, Prod.mk.injEq] at h
        obtain ⟨rfl, rfl⟩ := h
        rw [hc, hd]
        rfl
      rw [if_neg hd] at h
      by_cases hd2 : d = 255
      · rw [if_pos hd2] at h
        obtain ⟨⟨t', k'⟩, hq, he⟩ := Option.map_eq_some_iff.mp h
        simp only [Prod.mk.injEq] at he
        obtain ⟨rfl, rfl⟩ := he
        have := scan_back n m t' k' (by omega) hq
        rw [hc, hd2, esc_c]
        show 0 :: 255 :: m = 0 :: 255 :: (esc t' ++ 0 :: 1 :: (0 :: 255 :: m).drop (k' + 2))
        rw [show (0 :: 255 :: m : List Int).drop (k' + 2) = m.drop k' from rfl, ← this]
      · rw [if_neg hd2] at h
        cases h
    · rw [if_neg hc] at h
      obtain ⟨⟨t', k'⟩, hq, he⟩ := Option.map_eq_some_iff.mp h
      simp only [Prod.mk.injEq] at he
      obtain ⟨rfl, rfl⟩ := he
      have := scan_back n (d :: m) t' k' (by simp only [List.length_cons]; omega) hq
      rw [esc_c]
      unfold esc1
      rw [if_neg hc]
      show c :: d :: m = c :: (esc t' ++ 0 :: 1 :: (c :: d :: m).drop (k' + 1))
      rw [show (c :: d :: m : List Int).drop (k' + 1) = (d :: m).drop k' from rfl, ← this]
theorem esc_bytes {l : List Int} (h : ∀ x ∈ esc l, IsByte x) : ∀ x ∈ l, IsByte x := by
  intro x hx
  refine h x ?_
  unfold esc
  refine List.mem_flatMap.2 ⟨x, hx, ?_⟩
  unfold esc1
  split
  · rename_i e; rw [e]; simp
  · simp
/-- A key's bytes are read as the key. -/
theorem parts_back : ∀ (l : List S46), PartsOk l → (∀ p ∈ l, Right p) → partsOf (encL l) = some l
  | [], _, _ => rfl
  | p :: l, hl, hr => by
    have hl' : PartsOk l := ⟨by have := hl.len; simp only [List.length_cons] at this; omega, fun x hx => hl.each x (List.mem_cons_of_mem _ hx)⟩
    have ih := parts_back l hl' (fun x hx => hr x (List.mem_cons_of_mem _ hx))
    have hp := hl.each p List.mem_cons_self
    have rp := hr p List.mem_cons_self
    have hn := num_of p hp
    rw [encL_cons]
    unfold encP
    by_cases h2 : p.f0 = 2
    · rw [if_pos h2]
      have hs : p.f2 = ⟨#[]⟩ := by
        rcases rp with ⟨h, _⟩ | ⟨_, h⟩
        · omega
        · exact h
      show partsOf (3 :: (num8 p.f1 ++ encL l)) = _
      rw [partsOf_cons, if_neg (by decide), if_pos rfl, if_neg (by rw [List.length_append, num8_len]; omega), List.drop_append_of_le_length (by rw [num8_len]; omega), List.take_append_of_le_length (by rw [num8_len]; omega), List.drop_of_length_le (l := num8 p.f1) (by rw [num8_len]; omega), List.take_of_length_le (l := num8 p.f1) (by rw [num8_len]; omega), List.nil_append, ih, (num8_back p.f1 hn.1 hn.2).1]
      show some ((⟨2, p.f1, ⟨#[]⟩⟩ : S46) :: l) = some (p :: l)
      rw [← h2, ← hs]
    rw [if_neg h2]
    by_cases h3 : p.f0 = 3
    · rw [if_pos h3]
      have hs : p.f2 = ⟨#[]⟩ := by
        rcases rp with ⟨h, _⟩ | ⟨_, h⟩
        · omega
        · exact h
      have hnl : ((num8 p.f1).map neg).length = 8 := by simp [num8_len]
      show partsOf (4 :: ((num8 p.f1).map neg ++ encL l)) = _
      rw [partsOf_cons, if_neg (by decide), if_neg (by decide), if_pos rfl, if_neg (by rw [List.length_append, hnl]; omega), List.drop_append_of_le_length (by rw [hnl]; omega), List.take_append_of_le_length (by rw [hnl]; omega), List.drop_of_length_le (l := (num8 p.f1).map neg) (by rw [hnl]; omega), List.take_of_length_le (l := (num8 p.f1).map neg) (by rw [hnl]; omega), List.nil_append, ih, (num8_back p.f1 hn.1 hn.2).2]
      show some ((⟨3, p.f1, ⟨#[]⟩⟩ : S46) :: l) = some (p :: l)
      rw [← h3, ← hs]
    rw [if_neg h3]
    have h1 : p.f0 = 1 ∧ p.f1 = 0 := by
      rcases rp with h | ⟨h | h, _⟩
      · exact h
      · exact absurd h h2
      · exact absurd h h3
    show partsOf (2 :: (esc (bytesOf p.f2) ++ [0, 1] ++ encL l)) = _
    rw [partsOf_cons, if_pos rfl, List.append_assoc]
    show textOn [] (esc (bytesOf p.f2) ++ 0 :: 1 :: encL l) = _
    unfold textOn
    rw [scan_esc]
    simp only [List.nil_append]
    have hd : (esc (bytesOf p.f2) ++ 0 :: 1 :: encL l).drop ((esc (bytesOf p.f2)).length + 2) = encL l := by
      rw [List.drop_append]
      simp
    rw [hd, ih, nums_of_bytes]
    show some ((⟨1, 0, p.f2⟩ : S46) :: l) = some (p :: l)
    rw [← h1.1, ← h1.2]
/-- What is read of bytes has just these. -/
theorem parts_told : ∀ (n : Nat) (B : List Int) (L : List S46), B.length ≤ n → B.length ≤ 128 → (∀ x ∈ B, IsByte x) → partsOf B = some L → encL L = B ∧ (∀ p ∈ L, Right p ∧ PartOk p) ∧ L.length ≤ B.length
  | _, [], L, _, _, _, h => by
    rw [partsOf_nil] at h
    cases h
    exact ⟨rfl, fun p hp => by simp at hp, Nat.le_refl _⟩
  | 0, c :: l, L, hn, _, _, _ => by simp at hn
  | n + 1, c :: l, L, hn, hm, hb, h => by
    simp only [List.length_cons] at hn hm
    rw [partsOf_cons] at h
    have hbl : ∀ x ∈ l, IsByte x := fun x hx => hb x (List.mem_cons_of_mem _ hx)
    have wf : ∀ z : Int, -9223372036854775808 ≤ z → z ≤ 9223372036854775807 → (Lit.int .i64 z).wf = true := fun z _ _ => by
      simp [Lit.wf, IntKind.min, IntKind.max, IntKind.bits, IntKind.signed]; omega
    by_cases h2 : c = 2
    · rw [if_pos h2] at h
      unfold textOn at h
      cases hs : scanT l with
      | none => rw [hs] at h; cases h
      | some p =>
        obtain ⟨t, k⟩ := p
        rw [hs] at h
        simp only [List.nil_append] at h
        obtain ⟨L', hq, rfl⟩ := Option.map_eq_some_iff.mp h
        have hl := scan_back l.length l t k (Nat.le_refl _) hs
        obtain ⟨e1, e2, e3⟩ := parts_told n (l.drop k) L' (by rw [List.length_drop]; omega) (by rw [List.length_drop]; omega) (fun x hx => hbl x (List.mem_of_mem_drop hx)) hq
        have hte : ∀ x ∈ esc t, IsByte x := fun x hx => hbl x (by rw [hl]; exact List.mem_append_left _ hx)
        have htb := esc_bytes hte
        have hlen : (esc t).length + 2 ≤ l.length := by
          have := congrArg List.length hl
          simp only [List.length_append, List.length_cons] at this
          omega
        have hge := esc_ge t
        refine ⟨?_, ?_, ?_⟩
        · rw [encL_cons, e1]
          unfold encP
          rw [if_neg (show ¬ (1 : Int) = 2 by decide), if_neg (show ¬ (1 : Int) = 3 by decide), bytes_of_nums t htb, h2]
          show 2 :: (esc t ++ [0, 1] ++ l.drop k) = 2 :: l
          rw [List.append_assoc]
          exact congrArg (2 :: ·) hl.symm
        · intro p hp
          rcases List.mem_cons.1 hp with rfl | hp
          · exact ⟨.inl ⟨rfl, rfl⟩, ⟨show (Lit.int .i64 1).wf = true by decide, show (Lit.int .i64 0).wf = true by decide, by rw [strOfNums_size]; omega⟩⟩
          · exact e2 p hp
        · rw [List.length_drop] at e3
          simp only [List.length_cons]
          omega
    rw [if_neg h2] at h
    by_cases h3 : c = 3
    · rw [if_pos h3] at h
      by_cases h8 : l.length < 8
      · rw [if_pos h8] at h; cases h
      rw [if_neg h8] at h
      obtain ⟨L', hq, rfl⟩ := Option.map_eq_some_iff.mp h
      obtain ⟨e1, e2, e3⟩ := parts_told n (l.drop 8) L' (by rw [List.length_drop]; omega) (by rw [List.length_drop]; omega) (fun x hx => hbl x (List.mem_of_mem_drop hx)) hq
      have h8l : (l.take 8).length = 8 := by rw [List.length_take]; omega
      have h8b : ∀ x ∈ l.take 8, IsByte x := fun x hx => hbl x (List.mem_of_mem_take hx)
      have hr := numOf_range (m := 0) h8l h8b (.inl rfl)
      refine ⟨?_, ?_, ?_⟩
      · rw [encL_cons, e1]
        unfold encP
        rw [if_pos rfl, numOf_back0 h8l h8b, h3]
        show 3 :: (l.take 8 ++ l.drop 8) = 3 :: l
        rw [List.take_append_drop]
      · intro p hp
        rcases List.mem_cons.1 hp with rfl | hp
        · exact ⟨.inr ⟨.inl rfl, rfl⟩, ⟨show (Lit.int .i64 2).wf = true by decide, wf _ hr.1 hr.2, show (0 : Nat) ≤ 140737488351232 by decide⟩⟩
        · exact e2 p hp
      · rw [List.length_drop] at e3
        simp only [List.length_cons]
        omega
    rw [if_neg h3] at h
    by_cases h4 : c = 4
    · rw [if_pos h4] at h
      by_cases h8 : l.length < 8
      · rw [if_pos h8] at h; cases h
      rw [if_neg h8] at h
      obtain ⟨L', hq, rfl⟩ := Option.map_eq_some_iff.mp h
      obtain ⟨e1, e2, e3⟩ := parts_told n (l.drop 8) L' (by rw [List.length_drop]; omega) (by rw [List.length_drop]; omega) (fun x hx => hbl x (List.mem_of_mem_drop hx)) hq
      have h8l : (l.take 8).length = 8 := by rw [List.length_take]; omega
      have h8b : ∀ x ∈ l.take 8, IsByte x := fun x hx => hbl x (List.mem_of_mem_take hx)
      have hr := numOf_range (m := 255) h8l h8b (.inr rfl)
      refine ⟨?_, ?_, ?_⟩
      · rw [encL_cons, e1]
        unfold encP
        rw [if_neg (show ¬ (3 : Int) = 2 by decide), if_pos rfl, numOf_back255 h8l h8b, h4]
        show 4 :: (l.take 8 ++ l.drop 8) = 4 :: l
        rw [List.take_append_drop]
      · intro p hp
        rcases List.mem_cons.1 hp with rfl | hp
        · exact ⟨.inr ⟨.inr rfl, rfl⟩, ⟨show (Lit.int .i64 3).wf = true by decide, wf _ hr.1 hr.2, show (0 : Nat) ≤ 140737488351232 by decide⟩⟩
        · exact e2 p hp
      · rw [List.length_drop] at e3
        simp only [List.length_cons]
        omega
    rw [if_neg h4] at h
    cases h
/-- What Decode tells. -/
def Dec (s : ByteArray) : List S46 × Int := if s.size ≤ 128 then (match partsOf (bytesOf s) with | none => ([], 4) | some L => (L, 0)) else ([], 5)
theorem decode_ev (s : ByteArray) : Ev (fun k => tuple_Decode.f k s) (Dec s) := by
  refine Ev.congr (f := fun _ => some (Dec s)) (fun k => ?_) (Ev.now _)
  unfold tuple_Decode.f Dec
  split
  · cases partsOf (bytesOf s) <;> rfl
  · rfl
theorem dec_parts (s : ByteArray) : PartsOk (Dec s).1 ∧ (Dec s).1.length ≤ 128 := by
  unfold Dec
  split
  · cases h : partsOf (bytesOf s) with
    | none => exact ⟨⟨by decide, fun p hp => by simp at hp⟩, by decide⟩
    | some L =>
      obtain ⟨_, e2, e3⟩ := parts_told _ _ L (Nat.le_refl _) (by rw [bytesOf_length]; assumption) (bytes_are s) h
      rw [bytesOf_length] at e3
      exact ⟨⟨by show L.length ≤ _; omega, fun p hp => (e2 p hp).2⟩, by show L.length ≤ _; omega⟩
  · exact ⟨⟨by decide, fun p hp => by simp at hp⟩, by decide⟩
end Go.Proofs.Ythcfkilofgfgpaa.A
