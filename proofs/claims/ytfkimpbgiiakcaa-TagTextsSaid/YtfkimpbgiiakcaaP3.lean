/- Any tag has the text, and any text is the tag, that the document says, or none; a tag's text is read as the tag, and what is read has just this text. -/
import Derived.Test.YtfkimpbgiiakcaaAx9
import Derived.Test.YtfkimpbgiiakcaaP2
namespace Go.Proofs.Ytfkimpbgiiakcaa.A
open Go.RowKit Go.Proofs.YtfkimpbgiiakcaaW.PrintWords Go.Proofs.YtfkimpbgiiakcaaW.PrintLast Go.Proofs.YtfkimpbgiiakcaaW.PrintMore
set_option linter.unusedVariables false
theorem pureTagTexts (a b : Int) (s : ByteArray) (ha : (Lit.int .i64 a).wf = true) (hb : (Lit.int .i64 b).wf = true) (hs : s.size ≤ 140737488351232) : ∃ k, ambrylaw03_TagTexts.f k a b s = some true := by
  have h : Ev (fun k => ambrylaw03_TagTexts.f k a b s) true := by
    refine Ev.congr (f := fun k => (ambryref03_Text.f k a b).bind fun bt249 => ((ambryref03_Parse.f k s).bind fun bt255 => (if (textOf a b).1.toList = bt249.1.toList then (if (textOf a b).2 = bt249.2 then (if ((readOf s).1 == bt255.1 && ((readOf s).2.1 == bt255.2.1)) = true then (if (readOf s).2.2 = bt255.2.2 then ((ambrylaw03_lives.f).bind fun t259 => (some t259)) else (some false)) else (some false)) else (some false)) else (some false)))) (fun k => ?_) (Ev.bind (rtext_ev a b) (Ev.bind (rparse_ev s hs) ?_))
    · unfold ambrylaw03_TagTexts.f
      rw [tag_Text_is, tag_Parse_is]
      rfl
    · simp only [beq_self_eq_true, Bool.and_self, if_true]
      exact Ev.now _
  exact h.rounds
theorem digV_inv {c d : Int} (h : digV c = some d) : ((hexDigit d.toNat : Nat) : Int) = c := by
  have hr := digV_range h
  unfold digV at h
  by_cases h1 : 48 ≤ c ∧ c ≤ 57
  · rw [if_pos h1] at h
    obtain rfl := Option.some.inj h
    unfold hexDigit
    rw [if_pos (by omega)]
    omega
  · rw [if_neg h1] at h
    by_cases h2 : 97 ≤ c ∧ c ≤ 102
    · rw [if_pos h2] at h
      obtain rfl := Option.some.inj h
      unfold hexDigit
      rw [if_neg (by omega)]
      omega
    · rw [if_neg h2] at h
      cases h
theorem digV_hex : ∀ d : Fin 16, digV ((hexDigit d.val : Nat) : Int) = some ((d.val : Nat) : Int) := by decide
theorem digV_at (n : Int) (i : Nat) : digV ((hexDigit (hexAt n i) : Nat) : Int) = some ((hexAt n i : Nat) : Int) := digV_hex ⟨hexAt n i, hexAt_lt n i⟩
theorem hexStep_some {v c d : Int} (h : digV c = some d) : hexStep (some v) c = some (v * 16 + d) := by unfold hexStep; rw [Option.bind_some, h]; rfl
theorem hexStep_out {v : Option Int} {c x : Int} (h : hexStep v c = some x) : ∃ y d, v = some y ∧ digV c = some d ∧ x = y * 16 + d := by
  unfold hexStep at h
  obtain ⟨y, rfl, h⟩ := Option.bind_eq_some_iff.1 h
  obtain ⟨d, hd, rfl⟩ := Option.map_eq_some_iff.1 h
  exact ⟨y, d, rfl, hd, rfl⟩
theorem hexVal_hexes (n : Int) (h0 : 0 ≤ n) (h1 : n < 1048576) : hexVal (hexes n) = some n := by
  unfold hexVal hexes
  simp only [List.foldl_cons, List.foldl_nil]
  rw [hexStep_some (digV_at n 4), hexStep_some (digV_at n 3), hexStep_some (digV_at n 2), hexStep_some (digV_at n 1), hexStep_some (digV_at n 0)]
  have e4 : hexAt n 4 = n.toNat / 65536 % 16 := rfl
  have e3 : hexAt n 3 = n.toNat / 4096 % 16 := rfl
  have e2 : hexAt n 2 = n.toNat / 256 % 16 := rfl
  have e1 : hexAt n 1 = n.toNat / 16 % 16 := rfl
  have e0 : hexAt n 0 = n.toNat / 1 % 16 := rfl
  rw [e4, e3, e2, e1, e0]
  congr 1
  omega
theorem hexes_of {l : List Int} (hl : l.length = 5) {x : Int} (h : hexVal l = some x) : hexes x = l := by
  obtain ⟨c0, c1, c2, c3, c4, rfl⟩ : ∃ c0 c1 c2 c3 c4, l = [c0, c1, c2, c3, c4] := by
    match l, hl with
    | [c0, c1, c2, c3, c4], _ => exact ⟨c0, c1, c2, c3, c4, rfl⟩
  unfold hexVal at h
  simp only [List.foldl_cons, List.foldl_nil] at h
  obtain ⟨y4, d4, h, k4, e4⟩ := hexStep_out h
  obtain ⟨y3, d3, h, k3, e3⟩ := hexStep_out h
  obtain ⟨y2, d2, h, k2, e2⟩ := hexStep_out h
  obtain ⟨y1, d1, h, k1, e1⟩ := hexStep_out h
  obtain ⟨y0, d0, h, k0, e0⟩ := hexStep_out h
  have hy0 : y0 = 0 := (Option.some.inj h).symm
  have r0 := digV_range k0
  have r1 := digV_range k1
  have r2 := digV_range k2
  have r3 := digV_range k3
  have r4 := digV_range k4
  have a4 : hexAt x 4 = d0.toNat := by show x.toNat / 65536 % 16 = _; omega
  have a3 : hexAt x 3 = d1.toNat := by show x.toNat / 4096 % 16 = _; omega
  have a2 : hexAt x 2 = d2.toNat := by show x.toNat / 256 % 16 = _; omega
  have a1 : hexAt x 1 = d3.toNat := by show x.toNat / 16 % 16 = _; omega
  have a0 : hexAt x 0 = d4.toNat := by show x.toNat / 1 % 16 = _; omega
  unfold hexes
  rw [a4, a3, a2, a1, a0, digV_inv k0, digV_inv k1, digV_inv k2, digV_inv k3, digV_inv k4]
theorem hexes_len (n : Int) : (hexes n).length = 5 := rfl
theorem hexDigit_byte (d : Nat) (h : d < 16) : 0 ≤ ((hexDigit d : Nat) : Int) ∧ ((hexDigit d : Nat) : Int) ≤ 255 := by
  unfold hexDigit
  split <;> omega
theorem hexes_bytes (n : Int) : Bytes_ (hexes n) := by
  intro x hx
  unfold hexes at hx
  simp only [List.mem_cons, List.not_mem_nil, or_false] at hx
  rcases hx with rfl | rfl | rfl | rfl | rfl <;> exact hexDigit_byte _ (hexAt_lt _ _)
theorem parse_text (a b : Int) (h : rightB a b = true) : readOf (strOfNums (hexes a ++ hexes b)) = (a, b, 0) := by
  have hr := rightB_in h
  have hsz : (strOfNums (hexes a ++ hexes b)).size = 10 := by rw [nums_size]; rfl
  have hb : bytesOf (strOfNums (hexes a ++ hexes b)) = hexes a ++ hexes b := bytes_of_nums _ (by
    intro x hx
    rcases List.mem_append.1 hx with hx | hx
    · exact hexes_bytes a x hx
    · exact hexes_bytes b x hx)
  unfold readOf
  rw [if_pos hsz, hb]
  unfold parseOf
  have t5 : (hexes a ++ hexes b).take 5 = hexes a := List.take_left' (hexes_len a)
  have d5 : (hexes a ++ hexes b).drop 5 = hexes b := List.drop_left' (hexes_len a)
  rw [t5, d5, hexVal_hexes a hr.1.1 (by omega), hexVal_hexes b hr.2.1 (by omega)]
  simp only [h, if_true]
theorem text_parse (s : ByteArray) : (∃ x y, readOf s = (x, y, 0) ∧ textOf x y = (s, 0)) ∨ readOf s = (0, 0, 4) := by
  unfold readOf
  by_cases hs : s.size = 10
  · rw [if_pos hs]
    have hl : (bytesOf s).length = 10 := by rw [bytesOf_length, hs]
    unfold parseOf
    cases e1 : hexVal ((bytesOf s).take 5) with
    | none => exact .inr rfl
    | some x =>
      cases e2 : hexVal ((bytesOf s).drop 5) with
      | none => exact .inr rfl
      | some y =>
        cases hr : rightB x y
        · exact .inr (by simp only [hr, Bool.false_eq_true, if_false])
        · refine .inl ⟨x, y, by simp only [hr, if_true], ?_⟩
          unfold textOf
          rw [if_pos hr, hexes_of (by rw [List.length_take]; omega) e1, hexes_of (by rw [List.length_drop]; omega) e2, List.take_append_drop, nums_of_bytes]
  · rw [if_neg hs]
    exact .inr rfl
theorem check_is (a b : Int) : tag_Check.f a b = some (if rightB a b = true then 0 else 2) := by
  rw [check_some]
theorem back_j0 (k : Nat) (s : ByteArray) : ambrylaw03_TagBack.j0 (k + 1) s = some true := by
  simp only [ambrylaw03_TagBack.j0]
  rw [tag_Parse_is]
  simp only [Option.bind_some]
  rcases text_parse s with ⟨x, y, h1, h2⟩ | h1
  · rw [h1]
    simp only [if_true]
    rw [tag_Text_is, h2]
    simp only [Option.bind_some, if_true]
    rfl
  · rw [h1]
    simp only [beq_self_eq_true, Bool.and_self, if_true]
    rfl
theorem pureTagBack (a b : Int) (s : ByteArray) (ha : (Lit.int .i64 a).wf = true) (hb : (Lit.int .i64 b).wf = true) (hs : s.size ≤ 140737488351232) : ∃ k, ambrylaw03_TagBack.f k a b s = some true := by
  refine ⟨1, ?_⟩
  unfold ambrylaw03_TagBack.f
  rw [tag_Text_is]
  simp only [Option.bind_some]
  unfold textOf
  cases hr : rightB a b
  · simp only [Bool.false_eq_true, if_false]
    rw [if_neg (by decide), check_is, hr]
    have e : (⟨#[]⟩ : ByteArray).toList = [] := by rw [ByteArray.toList_eq]
    rw [if_pos e]
    simp only [Option.bind_some, Bool.false_eq_true, if_false]
    rw [if_neg (by decide)]
    exact back_j0 0 s
  · simp only [if_true]
    rw [tag_Parse_is, parse_text a b hr]
    simp only [Option.bind_some, beq_self_eq_true, Bool.not_true, Bool.or_self, Bool.false_eq_true, if_false, if_true]
    rw [if_pos (by rw [nums_size]; rfl)]
    exact back_j0 0 s
end Go.Proofs.Ytfkimpbgiiakcaa.A
