/- What the document's encoder of keys tells: the same as the program's. -/
import Derived.Test.YthcfkilofgfgpaaM2
import Derived.Test.YthcfkilofgfgpaaAx8
namespace Go.Proofs.Ythcfkilofgfgpaa.A
open Go.RowKit Go.Proofs.YthcfkilofgfgpaaW.PrintWords Go.Proofs.YthcfkilofgfgpaaW.PrintLast Go.Proofs.YthcfkilofgfgpaaW.PrintMore
set_option linter.unusedVariables false
set_option linter.unusedSimpArgs false
theorem rright (p : S46) : ambryref02_right.f p.f0 p.f1 p.f2 = tuple_right.f p.f0 p.f1 p.f2 := by
  unfold ambryref02_right.f tuple_right.f
  by_cases h1 : p.f0 = 1
  · rw [if_pos h1, if_pos h1]
    have h2 : ¬ p.f0 = 2 := by omega
    have h3 : ¬ p.f0 = 3 := by omega
    by_cases h : p.f1 = 0
    · rw [if_pos h, h]; rfl
    · rw [if_neg h, if_neg h2, if_neg h3]
      simp [h]
  · rw [if_neg h1, if_neg h1]
theorem turnL_no (l : List Int) : turnL false l = turn0 l := rfl
theorem turnL_yes (l : List Int) : turnL true l = (turn0 l).map turnF := rfl
theorem esc_cons (c : Int) (l : List Int) : esc (c :: l) = esc1 c ++ esc l := by simp [esc]
theorem size_ev (p : S46) (hp : PartOk p) (hr : Right p) : Ev (fun k => ambryref02_size.f k p.f0 p.f1 p.f2) ((encP p).length : Int) := by
  have hs := hp.text
  by_cases h1 : p.f0 = 1
  · have key : ∀ (d i : Nat) (x : Int), i + d = p.f2.size → 0 ≤ x → x ≤ 3 + 2 * (p.f2.size : Int) + i → Ev (fun k => ambryref02_size.l0 k x (i : Int) p.f0 p.f1 p.f2) (x + ((esc ((bytesOf p.f2).drop i)).length - d : Nat)) := by
      intro d
      induction d with
      | zero =>
        intro i x hi h0 hx
        have e : (bytesOf p.f2).drop i = [] := List.drop_of_length_le (by rw [bytesOf_length]; omega)
        rw [e]
        refine Ev.step (f := fun _ => some x) (fun k => by rw [ambryref02_size.l0, if_neg (by omega)]) ?_
        simpa [esc] using Ev.now x
      | succ d ih =>
        intro i x hi h0 hx
        have hlt : i < p.f2.size := by omega
        have hd : (bytesOf p.f2).drop i = bt p.f2 (i : Int) :: (bytesOf p.f2).drop (i + 1) := by
          have hl : i < (bytesOf p.f2).length := by rw [bytesOf_length]; exact hlt
          have h1 := rd_bytesOf p.f2 (i : Int)
          rw [List.drop_eq_getElem_cons hl, ← h1]
          simp [rd, List.getD_eq_getElem?_getD, List.getElem?_eq_getElem hl]
        have hw : wrap64 ((i : Int) + 1) = ((i + 1 : Nat) : Int) := by unfold wrap64; omega
        have hge := esc_ge ((bytesOf p.f2).drop (i + 1))
        rw [List.length_drop, bytesOf_length] at hge
        rw [hd, esc_cons]
        by_cases hz : bt p.f2 (i : Int) = 0
        · refine Ev.step (f := fun k => ambryref02_size.l0 k (x + 1) ((i + 1 : Nat) : Int) p.f0 p.f1 p.f2) (fun k => by rw [ambryref02_size.l0, if_pos (by omega), if_pos (by omega), if_pos hz, hw, wrap_ok (x + 1) (by omega) (by omega)]) ?_
          have := ih (i + 1) (x + 1) (by omega) (by omega) (by omega)
          have e1 : (esc1 (bt p.f2 (i : Int))).length = 2 := by unfold esc1; rw [if_pos hz]; rfl
          rw [List.length_append, e1]
          refine ev_val this ?_
          omega
        · refine Ev.step (f := fun k => ambryref02_size.l0 k x ((i + 1 : Nat) : Int) p.f0 p.f1 p.f2) (fun k => by rw [ambryref02_size.l0, if_pos (by omega), if_pos (by omega), if_neg hz, hw]) ?_
          have := ih (i + 1) x (by omega) h0 (by omega)
          have e1 : (esc1 (bt p.f2 (i : Int))).length = 1 := by unfold esc1; rw [if_neg hz]; rfl
          rw [List.length_append, e1]
          refine ev_val this ?_
          omega
    have hw : wrap64 (3 + (p.f2.size : Int)) = 3 + (p.f2.size : Int) := wrap_ok _ (by omega) (by omega)
    refine Ev.congr (f := fun k => ambryref02_size.l0 k (3 + (p.f2.size : Int)) ((0 : Nat) : Int) p.f0 p.f1 p.f2) (fun k => by unfold ambryref02_size.f; rw [if_pos h1, hw]; rfl) ?_
    have := key p.f2.size 0 (3 + (p.f2.size : Int)) (by omega) (by omega) (by omega)
    have hge := esc_ge (bytesOf p.f2)
    rw [bytesOf_length] at hge
    refine ev_val this ?_
    unfold encP
    rw [if_neg (by omega), if_neg (by omega)]
    simp only [List.drop_zero, List.length_cons, List.length_append, List.length_nil]
    omega
  · refine Ev.congr (f := fun _ => some 9) (fun k => by unfold ambryref02_size.f; rw [if_neg h1]) ?_
    have : (encP p).length = 9 := by
      unfold encP
      rcases hr with ⟨h, _⟩ | ⟨h | h, _⟩
      · exact absurd h h1
      · rw [if_pos h]; rfl
      · rw [if_neg (by omega), if_pos h]; rfl
    rw [this]
    exact Ev.now _
theorem encP_le {p : S46} (hp : PartOk p) : (encP p).length ≤ 300000000000000 := by
  have hs := hp.text
  have := esc_len (bytesOf p.f2)
  rw [bytesOf_length] at this
  unfold encP
  split
  · simp [num8, be]
  split
  · simp [num8, be]
  · simp
    omega
theorem rcheck1_ev (l : List S46) (hl : PartsOk l) (hr : ∀ p ∈ l, Right p) : ∀ (d i : Nat) (n : Nat), i + d = l.length → n ≤ 128 →
    Ev (fun k => ambryref02_Check.l1 k l (n : Int) (i : Int)) (if n + (encL (l.drop i)).length ≤ 128 then 0 else 5) := by
  intro d
  have hn := hl.len
  induction d with
  | zero =>
    intro i n hi hle
    rw [List.drop_of_length_le (by omega), encL_nil, if_pos (by simpa using hle)]
    exact Ev.step (f := fun _ => some 0) (fun k => by rw [ambryref02_Check.l1, if_neg (by omega)]) (Ev.now _)
  | succ d ih =>
    intro i n hi hle
    have hlt : i < l.length := by omega
    have hd : l.drop i = l[i] :: l.drop (i + 1) := List.drop_eq_getElem_cons hlt
    have hmem := List.getElem_mem hlt
    have hok := hl.each _ hmem
    have hb := encP_le hok
    have hw : wrap64 ((n : Int) + ((encP l[i]).length : Int)) = ((n + (encP l[i]).length : Nat) : Int) := by rw [wrap_ok _ (by omega) (by omega)]; omega
    rw [hd, encL_cons, List.length_append]
    refine Ev.step (f := fun k => (ambryref02_size.f k l[i].f0 l[i].f1 l[i].f2).bind fun t => (if (wrap64 ((n : Int) + t)) > 128 then (some 5) else (ambryref02_Check.l1 k l (wrap64 ((n : Int) + t)) ((i + 1 : Nat) : Int)))) (fun k => by rw [ambryref02_Check.l1, if_pos (by omega), if_pos (by omega), rd_at l i hlt, wrap_up i l.length hlt (by omega)]) ?_
    refine Ev.bind (size_ev l[i] hok (hr _ hmem)) ?_
    simp only [hw]
    by_cases hg : n + (encP l[i]).length ≤ 128
    · refine Ev.congr (f := fun k => ambryref02_Check.l1 k l ((n + (encP l[i]).length : Nat) : Int) ((i + 1 : Nat) : Int)) (fun k => by rw [if_neg (by omega)]) ?_
      have := ih (i + 1) (n + (encP l[i]).length) (by omega) hg
      rw [Nat.add_assoc] at this
      exact this
    · rw [if_neg (by omega)]
      exact Ev.congr (f := fun _ => some 5) (fun k => by rw [if_pos (by omega)]) (Ev.now _)
open Classical in
theorem rcheck0_ev (l : List S46) (hl : PartsOk l) (r : Int) (hr : (∀ p ∈ l, Right p) → Ev (fun k => ambryref02_Check.l1 k l 0 0) r) : ∀ (d i : Nat), i + d = l.length → (∀ p ∈ l.take i, Right p) →
    Ev (fun k => ambryref02_Check.l0 k l (i : Int)) (if ∀ p ∈ l, Right p then r else 2) := by
  intro d
  have hn := hl.len
  induction d with
  | zero =>
    intro i hi ht
    have e : l.take i = l := by rw [show i = l.length by omega, List.take_length]
    rw [e] at ht
    rw [if_pos ht]
    exact Ev.step (f := fun k => ambryref02_Check.l1 k l 0 0) (fun k => by rw [ambryref02_Check.l0, if_neg (by omega)]) (hr ht)
  | succ d ih =>
    intro i hi ht
    have hlt : i < l.length := by omega
    have head : ∀ k, ambryref02_Check.l0 (k + 1) l (i : Int) = (tuple_right.f l[i].f0 l[i].f1 l[i].f2).bind fun t => (if t = true then (ambryref02_Check.l0 k l ((i + 1 : Nat) : Int)) else (some 2)) := fun k => by
      rw [ambryref02_Check.l0, if_pos (by omega), if_pos (by omega), rd_at l i hlt, wrap_up i l.length hlt (by omega), rright]
    by_cases hp : Right l[i]
    · refine Ev.step (f := fun k => ambryref02_Check.l0 k l ((i + 1 : Nat) : Int)) (fun k => by rw [head, right_yes hp]; rfl) (ih (i + 1) (by omega) ?_)
      intro p hq
      rw [List.take_succ_eq_append_getElem hlt] at hq
      rcases List.mem_append.1 hq with h | h
      · exact ht p h
      · rw [List.mem_singleton] at h
        rw [h]
        exact hp
    · rw [if_neg (fun h => hp (h _ (List.getElem_mem hlt)))]
      exact Ev.step (f := fun _ => some 2) (fun k => by rw [head, right_no hp]; rfl) (Ev.now _)
theorem rcheck_ev (l : List S46) (hl : PartsOk l) : Ev (fun k => ambryref02_Check.f k l) (Enc l).2 := by
  have := rcheck0_ev l hl _ (fun hr => rcheck1_ev l hl hr l.length 0 0 (by omega) (by omega)) l.length 0 (by omega) (by simp)
  refine ev_val this ?_
  unfold Enc
  split
  · simp only [List.drop_zero, Nat.zero_add]
    split <;> rfl
  · rfl
/-! ### the bytes of a part, by the document -/
theorem field_step (k : Nat) (V : Int) (l : List Int) (s : Int) (hs : 0 ≤ s) (hs7 : s ≤ 7) (hl : l.length < 140737488355328) : ambryref01_Field.l0 (k + 1) V l s = ambryref01_Field.l0 k V (l ++ [shr .u64 V (8 * s) % 256]) (s - 1) := by
  have e : IntKind.u64.wrap (8 * IntKind.u64.wrap s) = 8 * s := by rw [wrap_u64, wrap_u64]; omega
  rw [ambryref01_Field.l0, if_pos hs, e, if_pos (by omega), if_pos hl, wrap_ok _ (by omega) (by omega)]
theorem field_ev (n : Int) : Ev (fun k => ambryref01_Field.f k n 8) (strOfNums (be (IntKind.u64.wrap n))) := by
  refine ⟨9, fun k hk => ?_⟩
  obtain ⟨m, rfl⟩ : ∃ n, k = n + 9 := ⟨k - 9, by omega⟩
  show ambryref01_Field.f (m + 9) n 8 = _
  unfold ambryref01_Field.f
  have sh : ∀ (s : Int) (e : Nat), s = e → e ≤ 64 → shr .u64 (IntKind.u64.wrap n) s = (IntKind.u64.wrap n) / 2 ^ e := fun s e he hle => by
    subst he
    unfold shr
    rw [Int.toNat_natCast, Nat.min_eq_left (by simpa [IntKind.bits] using hle)]
  rw [show wrap64 (8 - 1) = 7 from wrap_ok _ (by decide) (by decide)]
  rw [field_step _ _ _ _ (by decide) (by decide) (by decide), sh (8 * 7) 56 rfl (by decide)]
  rw [show (7 : Int) - 1 = 6 from rfl, field_step _ _ _ _ (by decide) (by decide) (by simp), sh (8 * 6) 48 rfl (by decide)]
  rw [show (6 : Int) - 1 = 5 from rfl, field_step _ _ _ _ (by decide) (by decide) (by simp), sh (8 * 5) 40 rfl (by decide)]
  rw [show (5 : Int) - 1 = 4 from rfl, field_step _ _ _ _ (by decide) (by decide) (by simp), sh (8 * 4) 32 rfl (by decide)]
  rw [show (4 : Int) - 1 = 3 from rfl, field_step _ _ _ _ (by decide) (by decide) (by simp), sh (8 * 3) 24 rfl (by decide)]
  rw [show (3 : Int) - 1 = 2 from rfl, field_step _ _ _ _ (by decide) (by decide) (by simp), sh (8 * 2) 16 rfl (by decide)]
  rw [show (2 : Int) - 1 = 1 from rfl, field_step _ _ _ _ (by decide) (by decide) (by simp), sh (8 * 1) 8 rfl (by decide)]
  rw [show (1 : Int) - 1 = 0 from rfl, field_step _ _ _ _ (by decide) (by decide) (by simp), sh (8 * 0) 0 rfl (by decide)]
  rw [show (0 : Int) - 1 = -1 from rfl, ambryref01_Field.l0, if_neg (by decide)]
  have p1 : (2 : Int) ^ 56 = 72057594037927936 := by decide
  have p2 : (2 : Int) ^ 48 = 281474976710656 := by decide
  have p3 : (2 : Int) ^ 40 = 1099511627776 := by decide
  have p4 : (2 : Int) ^ 32 = 4294967296 := by decide
  have p5 : (2 : Int) ^ 24 = 16777216 := by decide
  have p6 : (2 : Int) ^ 16 = 65536 := by decide
  have p7 : (2 : Int) ^ 8 = 256 := by decide
  rw [p1, p2, p3, p4, p5, p6, p7, Int.pow_zero, Int.ediv_one]
  rfl
theorem turn0_be (n : Int) (h0 : -9223372036854775808 ≤ n) (h1 : n ≤ 9223372036854775807) : turn0 (be (IntKind.u64.wrap n)) = num8 n := by
  have hb : IsByte (IntKind.u64.wrap n / 72057594037927936 % 256) := ⟨by omega, by omega⟩
  have e : turn0 (be (IntKind.u64.wrap n)) = bits .xor .u8 (IntKind.u64.wrap n / 72057594037927936 % 256) 128 :: (be (IntKind.u64.wrap n)).tail := rfl
  rw [e, (xor8 hb).2.1, wrap_u64]
  simp only [num8, be, List.tail, List.cons.injEq, and_true]
  refine ⟨by omega, by omega, by omega, by omega, by omega, by omega, by omega, by omega⟩
theorem turnF_neg {l : List Int} (h : ∀ x ∈ l, IsByte x) : l.map turnF = l.map neg := by
  apply List.map_congr_left
  intro x hx
  obtain ⟨h0, h1⟩ := h x hx
  unfold turnF neg
  omega
theorem rpart_ev (p : S46) (hp : PartOk p) : Ev (fun k => ambryref02_part.f k p.f0 p.f1 p.f2) (strOfNums (encP p)) := by
  have hn : -9223372036854775808 ≤ p.f1 ∧ p.f1 ≤ 9223372036854775807 := by
    simpa [Lit.wf, IntKind.min, IntKind.max, IntKind.bits, IntKind.signed] using hp.num
  have hs := hp.text
  have hsz : (strOfNums (be (IntKind.u64.wrap p.f1))).size = 8 := by rw [strOfNums_size]; rfl
  unfold encP
  by_cases h2 : p.f0 = 2
  · rw [if_pos h2]
    refine Ev.congr (f := fun k => ((ambryref01_Field.f k p.f1 8).bind fun t225 => ((ambryref02_turned.f k t225 false).bind fun t226 => (if 1 + t226.size ≤ 9223372036854775807 then (some ((⟨#[3]⟩ : ByteArray) ++ t226)) else (none))))) (fun k => by unfold ambryref02_part.f; rw [if_pos h2]) ?_
    refine Ev.bind (field_ev p.f1) ?_
    refine Ev.congr (f := fun _ => some (strOfNums (3 :: num8 p.f1))) (fun k => ?_) (Ev.now _)
    unfold ambryref02_turned.f
    rw [if_pos ⟨by omega, by omega⟩, bytes_of_nums _ (be_bytes _)]
    simp only [Option.bind_some]
    rw [turnL_no, turn0_be _ hn.1 hn.2, strOfNums_size, if_pos (by simp [num8, be])]
    rw [show (3 :: num8 p.f1) = [3] ++ num8 p.f1 from rfl, strOfNums_append]
    rfl
  rw [if_neg h2]
  by_cases h3 : p.f0 = 3
  · rw [if_pos h3]
    refine Ev.congr (f := fun k => ((ambryref01_Field.f k p.f1 8).bind fun t225 => ((ambryref02_turned.f k t225 true).bind fun t226 => (if 1 + t226.size ≤ 9223372036854775807 then (some ((⟨#[4]⟩ : ByteArray) ++ t226)) else (none))))) (fun k => by unfold ambryref02_part.f; rw [if_neg h2, if_pos h3]) ?_
    refine Ev.bind (field_ev p.f1) ?_
    refine Ev.congr (f := fun _ => some (strOfNums (4 :: (num8 p.f1).map neg))) (fun k => ?_) (Ev.now _)
    unfold ambryref02_turned.f
    rw [if_pos ⟨by omega, by omega⟩, bytes_of_nums _ (be_bytes _)]
    simp only [Option.bind_some]
    rw [turnL_yes, turn0_be _ hn.1 hn.2, turnF_neg (num8_bytes _), strOfNums_size, if_pos (by simp [num8, be])]
    rw [show (4 :: (num8 p.f1).map neg) = [4] ++ (num8 p.f1).map neg from rfl, strOfNums_append]
    rfl
  rw [if_neg h3]
  refine Ev.congr (f := fun _ => some (strOfNums (2 :: (esc (bytesOf p.f2) ++ [0, 1])))) (fun k => ?_) (Ev.now _)
  unfold ambryref02_part.f
  rw [if_neg h2, if_neg h3, if_pos (by omega), show (2 :: (esc (bytesOf p.f2) ++ [0, 1])) = [2] ++ esc (bytesOf p.f2) ++ [0, 1] from rfl, strOfNums_append, strOfNums_append]
  rfl
theorem rencode0_ev (l : List S46) (hl : PartsOk l) (hlen : (encL l).length ≤ 128) : ∀ (d i : Nat), i + d = l.length →
    Ev (fun k => ambryref02_Encode.l0 k l (strOfNums (encL (l.take i))) (i : Int)) (strOfNums (encL l), 0) := by
  intro d
  have hn := hl.len
  induction d with
  | zero =>
    intro i hi
    rw [show l.take i = l by rw [show i = l.length by omega, List.take_length]]
    exact Ev.step (f := fun _ => some (strOfNums (encL l), 0)) (fun k => by rw [ambryref02_Encode.l0, if_neg (by omega)]) (Ev.now _)
  | succ d ih =>
    intro i hi
    have hlt : i < l.length := by omega
    have ht : l.take (i + 1) = l.take i ++ [l[i]] := List.take_succ_eq_append_getElem hlt
    have hall : encL l = encL (l.take i) ++ (encP l[i] ++ encL (l.drop (i + 1))) := by
      rw [← encL_cons, ← encL_append, ← List.drop_eq_getElem_cons hlt, List.take_append_drop]
    have hl1 : (encL (l.take i)).length + (encP l[i]).length ≤ 128 := by
      rw [hall] at hlen
      simp only [List.length_append] at hlen
      omega
    refine Ev.step (f := fun k => (ambryref02_part.f k l[i].f0 l[i].f1 l[i].f2).bind fun t => (if (strOfNums (encL (l.take i))).size + t.size ≤ 9223372036854775807 then (ambryref02_Encode.l0 k l (strOfNums (encL (l.take i)) ++ t) ((i + 1 : Nat) : Int)) else none)) (fun k => by rw [ambryref02_Encode.l0, if_pos (by omega), if_pos (by omega), rd_at l i hlt, wrap_up i l.length hlt (by omega)]) ?_
    refine Ev.bind (rpart_ev l[i] (hl.each _ (List.getElem_mem hlt))) ?_
    refine Ev.congr (f := fun k => ambryref02_Encode.l0 k l (strOfNums (encL (l.take (i + 1)))) ((i + 1 : Nat) : Int)) (fun k => ?_) (ih (i + 1) (by omega))
    rw [if_pos (by rw [strOfNums_size, strOfNums_size]; omega), ht, encL_append, encL_cons, encL_nil, List.append_nil, strOfNums_append]
theorem rencode_ev (l : List S46) (hl : PartsOk l) : Ev (fun k => ambryref02_Encode.f k l) (Enc l) := by
  refine Ev.bind (rcheck_ev l hl) ?_
  by_cases hz : (Enc l).2 = 0
  · have hlen : (encL l).length ≤ 128 ∧ Enc l = (strOfNums (encL l), 0) := by
      unfold Enc at hz ⊢
      split at hz
      · split at hz
        · rename_i h1 h2
          rw [if_pos h1, if_pos h2]
          exact ⟨h2, rfl⟩
        · exact absurd hz (by decide)
      · exact absurd hz (by decide)
    refine Ev.congr (f := fun k => ambryref02_Encode.l0 k l (strOfNums (encL (l.take 0))) ((0 : Nat) : Int)) (fun k => by rw [if_pos hz]; rfl) ?_
    rw [hlen.2]
    exact rencode0_ev l hl hlen.1 l.length 0 (by omega)
  · have e : Enc l = (⟨#[]⟩, (Enc l).2) := by
      unfold Enc at hz ⊢
      split at hz
      · split at hz
        · exact absurd rfl hz
        · rename_i h1 h2
          rw [if_pos h1, if_neg h2]
      · rename_i h1
        rw [if_neg h1]
    refine Ev.congr (f := fun _ => some (Enc l)) (fun k => ?_) (Ev.now _)
    rw [if_neg hz]
    exact congrArg some e.symm
end Go.Proofs.Ythcfkilofgfgpaa.A
