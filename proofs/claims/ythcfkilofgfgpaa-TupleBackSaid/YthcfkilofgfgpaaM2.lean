/- What the program's encoder of keys tells, as one plain function of the parts. -/
import Derived.Test.YthcfkilofgfgpaaM1
import Derived.Test.YthcfkilofgfgpaaArgs
namespace Go.Proofs.Ythcfkilofgfgpaa.A
open Go.RowKit Go.Proofs.YthcfkilofgfgpaaW.PrintWords Go.Proofs.YthcfkilofgfgpaaW.PrintLast Go.Proofs.YthcfkilofgfgpaaW.PrintMore
set_option linter.unusedVariables false
set_option linter.unusedSimpArgs false
def Right (p : S46) : Prop := p.f0 = 1 ∧ p.f1 = 0 ∨ (p.f0 = 2 ∨ p.f0 = 3) ∧ p.f2 = ⟨#[]⟩
theorem empty_toList (s : ByteArray) : (s.toList == ([] : List UInt8)) = true ↔ s = ⟨#[]⟩ := by
  rw [beq_iff_eq]
  have : ([] : List UInt8) = (⟨#[]⟩ : ByteArray).toList := by rw [ByteArray.toList_eq]
  exact ⟨fun h => (toList_iff s ⟨#[]⟩).1 (h.trans this), fun h => by rw [h]; exact this.symm⟩
theorem right_yes {p : S46} (h : Right p) : tuple_right.f p.f0 p.f1 p.f2 = some true := by
  unfold tuple_right.f
  rcases h with ⟨h0, h1⟩ | ⟨h0 | h0, h2⟩
  · rw [if_pos h0, h1]; rfl
  · rw [h0, if_neg (by decide), if_pos rfl, (empty_toList p.f2).2 h2]
  · rw [h0, if_neg (by decide), if_neg (by decide), if_pos rfl, (empty_toList p.f2).2 h2]
theorem right_no {p : S46} (h : ¬ Right p) : tuple_right.f p.f0 p.f1 p.f2 = some false := by
  unfold tuple_right.f
  by_cases h1 : p.f0 = 1
  · rw [if_pos h1]
    have : ¬ p.f1 = 0 := fun e => h (.inl ⟨h1, e⟩)
    simp [this]
  rw [if_neg h1]
  by_cases h2 : p.f0 = 2
  · rw [if_pos h2]
    have : ¬ p.f2 = ⟨#[]⟩ := fun e => h (.inr ⟨.inl h2, e⟩)
    have e : (p.f2.toList == ([] : List UInt8)) = false := by
      rw [Bool.eq_false_iff]
      intro hb
      exact this ((empty_toList _).1 hb)
    rw [e]
  rw [if_neg h2]
  by_cases h3 : p.f0 = 3
  · rw [if_pos h3]
    have : ¬ p.f2 = ⟨#[]⟩ := fun e => h (.inr ⟨.inr h3, e⟩)
    have e : (p.f2.toList == ([] : List UInt8)) = false := by
      rw [Bool.eq_false_iff]
      intro hb
      exact this ((empty_toList _).1 hb)
    rw [e]
  · rw [if_neg h3]
def encP (p : S46) : List Int := if p.f0 = 2 then 3 :: num8 p.f1 else if p.f0 = 3 then 4 :: (num8 p.f1).map neg else 2 :: (esc (bytesOf p.f2) ++ [0, 1])
def encL (l : List S46) : List Int := l.flatMap encP
theorem encL_cons (p : S46) (l : List S46) : encL (p :: l) = encP p ++ encL l := by simp [encL]
theorem encL_append (a b : List S46) : encL (a ++ b) = encL a ++ encL b := by simp [encL]
theorem encL_nil : encL [] = [] := rfl
theorem size_zero {s : ByteArray} (h : s = ⟨#[]⟩) : s.size = 0 := by rw [h]; rfl
theorem esc_ge (l : List Int) : l.length ≤ (esc l).length := by
  induction l with
  | nil => simp [esc]
  | cons c l ih =>
    have h : esc (c :: l) = esc1 c ++ esc l := by simp [esc]
    have h1 : 1 ≤ (esc1 c).length := by unfold esc1; split <;> simp
    rw [h, List.length_append, List.length_cons]
    omega
theorem encP_ge {p : S46} (h : Right p) : p.f2.size ≤ (encP p).length := by
  unfold encP
  rcases h with ⟨h0, _⟩ | ⟨_, h2⟩
  · rw [if_neg (by omega), if_neg (by omega)]
    have := esc_ge (bytesOf p.f2)
    rw [bytesOf_length] at this
    simp
    omega
  · rw [size_zero h2]
    omega
theorem num_step (k : Nat) (l : List Int) (m V s : Int) (hs : 0 ≤ s) (hl : l.length < 140737488355328) : tuple_number.l0 (k + 1) l m V s = tuple_number.l0 k (l ++ [bits .xor .u8 (shr .u64 V s % 256) m]) m V (wrap64 (s - 8)) := by
  rw [tuple_number.l0, if_pos hs, if_pos hs, if_pos hl]
theorem number_ev (m : Int) (f : Int → Int) (hf : ∀ x, IsByte x → bits .xor .u8 x m = f x) (l : List Int) (a : Int) (h0 : -9223372036854775808 ≤ a) (h1 : a ≤ 9223372036854775807) (hl : l.length + 8 < 140737488355328) :
    Ev (fun k => tuple_number.f k l a m) (l ++ (num8 a).map f) := by
  refine ⟨9, fun k hk => ?_⟩
  obtain ⟨n, rfl⟩ : ∃ n, k = n + 9 := ⟨k - 9, by omega⟩
  have hu : bits .xor .u64 (IntKind.u64.wrap a) 9223372036854775808 = a + 9223372036854775808 := by
    rw [wrap_u64, xor_top _ (by omega) (by omega)]
    omega
  have w : ∀ s : Int, 0 ≤ s → s ≤ 56 → wrap64 (s - 8) = s - 8 := fun s _ _ => by unfold wrap64; omega
  have hb : ∀ d : Int, IsByte (d % 256) := fun d => ⟨by omega, by omega⟩
  have sh : ∀ (s : Int) (e : Nat), s = e → e ≤ 64 → shr .u64 (a + 9223372036854775808) s = (a + 9223372036854775808) / 2 ^ e := fun s e he hle => by
    subst he
    unfold shr
    rw [Int.toNat_natCast, Nat.min_eq_left (by simpa [IntKind.bits] using hle)]
  show tuple_number.f (n + 9) l a m = _
  unfold tuple_number.f
  rw [hu]
  rw [num_step _ _ _ _ _ (by decide) (by omega), w 56 (by decide) (by decide), sh 56 56 rfl (by decide), hf _ (hb _)]
  rw [num_step _ _ _ _ _ (by decide) (by simp; omega), show (56 : Int) - 8 = 48 from rfl, w 48 (by decide) (by decide), sh 48 48 rfl (by decide), hf _ (hb _)]
  rw [num_step _ _ _ _ _ (by decide) (by simp; omega), show (48 : Int) - 8 = 40 from rfl, w 40 (by decide) (by decide), sh 40 40 rfl (by decide), hf _ (hb _)]
  rw [num_step _ _ _ _ _ (by decide) (by simp; omega), show (40 : Int) - 8 = 32 from rfl, w 32 (by decide) (by decide), sh 32 32 rfl (by decide), hf _ (hb _)]
  rw [num_step _ _ _ _ _ (by decide) (by simp; omega), show (32 : Int) - 8 = 24 from rfl, w 24 (by decide) (by decide), sh 24 24 rfl (by decide), hf _ (hb _)]
  rw [num_step _ _ _ _ _ (by decide) (by simp; omega), show (24 : Int) - 8 = 16 from rfl, w 16 (by decide) (by decide), sh 16 16 rfl (by decide), hf _ (hb _)]
  rw [num_step _ _ _ _ _ (by decide) (by simp; omega), show (16 : Int) - 8 = 8 from rfl, w 8 (by decide) (by decide), sh 8 8 rfl (by decide), hf _ (hb _)]
  rw [num_step _ _ _ _ _ (by decide) (by simp; omega), show (8 : Int) - 8 = 0 from rfl, w 0 (by decide) (by decide), sh 0 0 rfl (by decide), hf _ (hb _)]
  rw [show n + 1 = n + 1 from rfl, tuple_number.l0, if_neg (by decide)]
  simp only [num8, be, List.map, List.append_assoc, List.singleton_append, List.cons_append, List.nil_append]
  have p1 : (2 : Int) ^ 56 = 72057594037927936 := by decide
  have p2 : (2 : Int) ^ 48 = 281474976710656 := by decide
  have p3 : (2 : Int) ^ 40 = 1099511627776 := by decide
  have p4 : (2 : Int) ^ 32 = 4294967296 := by decide
  have p5 : (2 : Int) ^ 24 = 16777216 := by decide
  have p6 : (2 : Int) ^ 16 = 65536 := by decide
  have p7 : (2 : Int) ^ 8 = 256 := by decide
  rw [p1, p2, p3, p4, p5, p6, p7, Int.pow_zero, Int.ediv_one]
theorem put_ev (acc : List Int) (p : S46) (hp : PartOk p) (hr : Right p) (ha : acc.length ≤ 128) (hs : p.f2.size ≤ 128) : Ev (fun k => tuple_put.f k acc p.f0 p.f1 p.f2) (acc ++ encP p) := by
  have hn := hp.num
  have hn : -9223372036854775808 ≤ p.f1 ∧ p.f1 ≤ 9223372036854775807 := by
    simpa [Lit.wf, IntKind.min, IntKind.max, IntKind.bits, IntKind.signed] using hn
  have hl : acc.length + 2 * p.f2.size + 3 ≤ 140737488355328 := by omega
  unfold encP
  by_cases h2 : p.f0 = 2
  · rw [if_pos h2]
    refine Ev.congr (f := fun k => tuple_number.f k (acc ++ [3]) p.f1 0) (fun k => by unfold tuple_put.f; rw [if_pos hl, if_pos h2]) ?_
    have := number_ev 0 id (fun x hx => (xor8 hx).2.2) (acc ++ [3]) p.f1 hn.1 hn.2 (by simp; omega)
    simpa using this
  rw [if_neg h2]
  by_cases h3 : p.f0 = 3
  · rw [if_pos h3]
    refine Ev.congr (f := fun k => tuple_number.f k (acc ++ [4]) p.f1 255) (fun k => by unfold tuple_put.f; rw [if_pos hl, if_neg h2, if_pos h3]) ?_
    have := number_ev 255 neg (fun x hx => (xor8 hx).1) (acc ++ [4]) p.f1 hn.1 hn.2 (by simp; omega)
    simpa using this
  rw [if_neg h3]
  refine Ev.congr (f := fun _ => some (acc ++ (2 :: (esc (bytesOf p.f2) ++ [0, 1])))) (fun k => by unfold tuple_put.f; rw [if_pos hl, if_neg h2, if_neg h3]; simp) (Ev.now _)
theorem rd_at (l : List S46) (i : Nat) (h : i < l.length) : rd_T46 l (i : Int) = l[i] := by
  unfold rd_T46
  rw [Int.toNat_natCast, List.getD_eq_getElem?_getD, List.getElem?_eq_getElem h]
  rfl
theorem wrap_up (i n : Nat) (h : i < n) (hn : n ≤ 4398046511104) : wrap64 ((i : Int) + 1) = ((i + 1 : Nat) : Int) := by unfold wrap64; omega
open Classical in
/-- What the encoder tells of parts: bytes, and how it ended. -/
noncomputable def Enc (l : List S46) : ByteArray × Int := if ∀ p ∈ l, Right p then (if (encL l).length ≤ 128 then (strOfNums (encL l), 0) else (⟨#[]⟩, 5)) else (⟨#[]⟩, 2)
open Classical in
theorem enc1_ev (l : List S46) (hl : PartsOk l) : ∀ (d i : Nat) (acc : List Int), i + d = l.length → acc.length ≤ 128 → (∀ p ∈ l.drop i, Right p) →
    Ev (fun k => tuple_Encode.l1 k acc l (l.length : Int) (i : Int)) (if (acc ++ encL (l.drop i)).length ≤ 128 then (strOfNums (acc ++ encL (l.drop i)), 0) else (⟨#[]⟩, 5)) := by
  intro d
  have hn := hl.len
  induction d with
  | zero =>
    intro i acc hi ha hr
    have e : l.drop i = [] := List.drop_of_length_le (by omega)
    rw [e, encL_nil, List.append_nil, if_pos ha]
    exact Ev.step (f := fun _ => some (strOfNums acc, 0)) (fun k => by rw [tuple_Encode.l1, if_neg (by omega)]) (Ev.now _)
  | succ d ih =>
    intro i acc hi ha hr
    have hlt : i < l.length := by omega
    have hd : l.drop i = l[i] :: l.drop (i + 1) := List.drop_eq_getElem_cons hlt
    have hp : Right l[i] := hr _ (by rw [hd]; exact List.mem_cons_self)
    have hr' : ∀ p ∈ l.drop (i + 1), Right p := fun p hp => hr p (by rw [hd]; exact List.mem_cons_of_mem _ hp)
    have hok := hl.each _ (List.getElem_mem hlt)
    have hge := encP_ge hp
    rw [hd, encL_cons]
    have head : ∀ k, tuple_Encode.l1 (k + 1) acc l (l.length : Int) (i : Int) = if ((l[i].f2.size : Int) > 128) then (some ((⟨#[]⟩ : ByteArray), 5)) else ((tuple_put.f k acc l[i].f0 l[i].f1 l[i].f2).bind fun t => (if (t.length : Int) > 128 then (some ((⟨#[]⟩ : ByteArray), 5)) else (tuple_Encode.l1 k t l (l.length : Int) ((i + 1 : Nat) : Int)))) := fun k => by
      rw [tuple_Encode.l1, if_pos (by omega), if_pos (by omega), if_pos (by omega), rd_at l i hlt, wrap_up i l.length hlt (by omega)]
    by_cases hs : l[i].f2.size ≤ 128
    · refine Ev.step (f := fun k => (tuple_put.f k acc l[i].f0 l[i].f1 l[i].f2).bind fun t => (if (t.length : Int) > 128 then (some ((⟨#[]⟩ : ByteArray), 5)) else (tuple_Encode.l1 k t l (l.length : Int) ((i + 1 : Nat) : Int)))) (fun k => by rw [head, if_neg (by omega)]) ?_
      refine Ev.bind (put_ev acc l[i] hok hp ha hs) ?_
      by_cases hb : (acc ++ encP l[i]).length ≤ 128
      · refine Ev.congr (f := fun k => tuple_Encode.l1 k (acc ++ encP l[i]) l (l.length : Int) ((i + 1 : Nat) : Int)) (fun k => by rw [if_neg (by omega)]) ?_
        have := ih (i + 1) (acc ++ encP l[i]) (by omega) hb hr'
        rw [List.append_assoc] at this
        exact this
      · rw [if_neg (by rw [← List.append_assoc, List.length_append]; omega)]
        exact Ev.congr (f := fun _ => some ((⟨#[]⟩ : ByteArray), 5)) (fun k => by rw [if_pos (by omega)]) (Ev.now _)
    · rw [if_neg (by simp only [List.length_append]; omega)]
      exact Ev.step (f := fun _ => some ((⟨#[]⟩ : ByteArray), 5)) (fun k => by rw [head, if_pos (by omega)]) (Ev.now _)
open Classical in
theorem enc0_ev (l : List S46) (hl : PartsOk l) (r : ByteArray × Int) (hr : (∀ p ∈ l, Right p) → Ev (fun k => tuple_Encode.l1 k [] l (l.length : Int) 0) r) : ∀ (d i : Nat), i + d = l.length → (∀ p ∈ l.take i, Right p) →
    Ev (fun k => tuple_Encode.l0 k l l (l.length : Int) (i : Int)) (if ∀ p ∈ l, Right p then r else (⟨#[]⟩, 2)) := by
  intro d
  have hn := hl.len
  induction d with
  | zero =>
    intro i hi ht
    have e : l.take i = l := by rw [show i = l.length by omega, List.take_length]
    rw [e] at ht
    rw [if_pos ht]
    exact Ev.step (f := fun k => tuple_Encode.l1 k [] l (l.length : Int) 0) (fun k => by rw [tuple_Encode.l0, if_neg (by omega)]) (hr ht)
  | succ d ih =>
    intro i hi ht
    have hlt : i < l.length := by omega
    have head : ∀ k, tuple_Encode.l0 (k + 1) l l (l.length : Int) (i : Int) = (tuple_right.f l[i].f0 l[i].f1 l[i].f2).bind fun t => (if t = true then (tuple_Encode.l0 k l l (l.length : Int) ((i + 1 : Nat) : Int)) else (some ((⟨#[]⟩ : ByteArray), 2))) := fun k => by
      rw [tuple_Encode.l0, if_pos (by omega), if_pos (by omega), if_pos (by omega), rd_at l i hlt, wrap_up i l.length hlt (by omega)]
    by_cases hp : Right l[i]
    · refine Ev.step (f := fun k => tuple_Encode.l0 k l l (l.length : Int) ((i + 1 : Nat) : Int)) (fun k => by rw [head, right_yes hp]; rfl) (ih (i + 1) (by omega) ?_)
      intro p hq
      rw [List.take_succ_eq_append_getElem hlt] at hq
      rcases List.mem_append.1 hq with h | h
      · exact ht p h
      · rw [List.mem_singleton] at h
        rw [h]
        exact hp
    · rw [if_neg (fun h => hp (h _ (List.getElem_mem hlt)))]
      exact Ev.step (f := fun _ => some ((⟨#[]⟩ : ByteArray), 2)) (fun k => by rw [head, right_no hp]; rfl) (Ev.now _)
theorem encode_ev (l : List S46) (hl : PartsOk l) : Ev (fun k => tuple_Encode.f k l) (Enc l) := by
  unfold Enc
  refine enc0_ev l hl _ (fun hr => ?_) l.length 0 (by omega) (by simp)
  have := enc1_ev l hl l.length 0 [] (by omega) (by simp) (by simpa using hr)
  simpa using this
theorem check_ev (l : List S46) (hl : PartsOk l) : Ev (fun k => tuple_Check.f k l) (Enc l).2 := Ev.bind (encode_ev l hl) (Ev.now _)
end Go.Proofs.Ythcfkilofgfgpaa.A
