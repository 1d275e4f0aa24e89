/- The bytes of two keys, one behind the other, are those of the key of all parts, if they are not too many. -/
import Derived.Test.YthcfkilofgfgpaaM5
import Derived.Test.YthcfkilofgfgpaaAx7
namespace Go.Proofs.Ythcfkilofgfgpaa.A
open Go.RowKit Go.Proofs.YthcfkilofgfgpaaW.PrintWords Go.Proofs.YthcfkilofgfgpaaW.PrintLast Go.Proofs.YthcfkilofgfgpaaW.PrintMore
set_option linter.unusedVariables false
set_option linter.unusedSimpArgs false
theorem nums_append (a b : List Int) : strOfNums (a ++ b) = strOfNums a ++ strOfNums b := by
  apply ByteArray.ext
  simp [strOfNums]
theorem few_is (l : List S46) : ambrylaw02_few.f l = some (decide ((l.length : Int) ≤ 1000)) := rfl
theorem empty_list : (⟨#[]⟩ : ByteArray).toList = ([] : List UInt8) := by rw [ByteArray.toList_eq]
theorem joins_yes (a b : List S46) : Ev (fun k => ambrylaw02_TupleJoins.j0 k a b true) true :=
  Ev.step (f := fun k => (ambrylaw02_lives.f k).bind fun t => some t) (fun k => by rw [ambrylaw02_TupleJoins.j0, if_pos rfl]) lives_then
theorem joins_bad (s t u : ByteArray) (e : Int) (he : e ≠ 0) (hu : u = ⟨#[]⟩) : Ev (fun k => ambrylaw02_TupleJoins.j1 k s t u e true) true :=
  Ev.step (f := fun k => (ambrylaw02_lives.f k).bind fun t => some t) (fun k => by rw [ambrylaw02_TupleJoins.j1, if_pos rfl, if_neg he, hu, if_pos empty_list]) lives_then
theorem pureTupleJoins (a b : List S46) (ha : PartsOk a) (hb : PartsOk b) : ∃ k, ambrylaw02_TupleJoins.f k a b = some true := by
  refine Ev.rounds (r := true) ?_
  unfold ambrylaw02_TupleJoins.f
  simp only [few_is, Option.bind_some]
  by_cases h1 : (a.length : Int) ≤ 1000
  case neg => exact Ev.congr (f := fun k => ambrylaw02_TupleJoins.j0 k a b true) (fun k => by rw [decide_eq_false h1, if_neg (by decide)]) (joins_yes a b)
  by_cases h2 : (b.length : Int) ≤ 1000
  case neg => exact Ev.congr (f := fun k => ambrylaw02_TupleJoins.j0 k a b true) (fun k => by rw [decide_eq_true h1, if_pos rfl, decide_eq_false h2]; rfl) (joins_yes a b)
  refine Ev.congr (f := fun k => ambrylaw02_TupleJoins.j0 k a b false) (fun k => by rw [decide_eq_true h1, if_pos rfl, decide_eq_true h2]; rfl) ?_
  have hab : PartsOk (a ++ b) := ⟨by rw [List.length_append]; omega, fun p hp => by
    rcases List.mem_append.1 hp with h | h
    · exact ha.each p h
    · exact hb.each p h⟩
  refine Ev.step (f := fun k => (tuple_Encode.f k a).bind fun x => (tuple_Encode.f k b).bind fun y => (tuple_Encode.f k (a ++ b)).bind fun z => (if x.2 = 0 then (ambrylaw02_TupleJoins.j1 k x.1 y.1 z.1 z.2 (y.2 != 0)) else (ambrylaw02_TupleJoins.j1 k x.1 y.1 z.1 z.2 true))) (fun k => by
    rw [ambrylaw02_TupleJoins.j0, if_neg (by decide)]
    simp only [Option.bind_some, List.nil_append, List.length_nil, if_pos (show 0 + a.length < 4398046511104 by omega), if_pos (show a.length + b.length < 4398046511104 by omega)]) ?_
  refine Ev.bind (encode_ev a ha) (Ev.bind (encode_ev b hb) (Ev.bind (encode_ev (a ++ b) hab) ?_))
  have hlen : (encL (a ++ b)).length = (encL a).length + (encL b).length := by rw [encL_append, List.length_append]
  have bad : ((Enc a).2 ≠ 0 ∨ (Enc b).2 ≠ 0) → (Enc (a ++ b)).2 ≠ 0 := by
    intro h hz
    obtain ⟨hr, hl⟩ := enc_zero hz
    rcases h with h | h
    · exact h (by rw [enc_ok (fun p hp => hr p (List.mem_append_left _ hp)) (by omega)])
    · exact h (by rw [enc_ok (fun p hp => hr p (List.mem_append_right _ hp)) (by omega)])
  by_cases hz1 : (Enc a).2 = 0
  case neg =>
    have hn := bad (.inl hz1)
    exact Ev.congr (f := fun k => ambrylaw02_TupleJoins.j1 k (Enc a).1 (Enc b).1 (Enc (a ++ b)).1 (Enc (a ++ b)).2 true) (fun k => by rw [if_neg hz1]) (joins_bad _ _ _ _ hn (enc_fst hn))
  by_cases hz2 : (Enc b).2 = 0
  case neg =>
    have hn := bad (.inr hz2)
    exact Ev.congr (f := fun k => ambrylaw02_TupleJoins.j1 k (Enc a).1 (Enc b).1 (Enc (a ++ b)).1 (Enc (a ++ b)).2 true) (fun k => by rw [if_pos hz1, bne_iff_ne.2 hz2]) (joins_bad _ _ _ _ hn (enc_fst hn))
  obtain ⟨hr1, hl1⟩ := enc_zero hz1
  obtain ⟨hr2, hl2⟩ := enc_zero hz2
  have hr : ∀ p ∈ a ++ b, Right p := fun p hp => by
    rcases List.mem_append.1 hp with h | h
    · exact hr1 p h
    · exact hr2 p h
  refine Ev.congr (f := fun k => ambrylaw02_TupleJoins.j1 k (Enc a).1 (Enc b).1 (Enc (a ++ b)).1 (Enc (a ++ b)).2 false) (fun k => by rw [if_pos hz1, hz2]; rfl) ?_
  rw [enc_ok hr1 hl1, enc_ok hr2 hl2]
  have hw : wrap64 (((strOfNums (encL a)).size : Int) + ((strOfNums (encL b)).size : Int)) = ((encL a).length : Int) + ((encL b).length : Int) := by
    rw [strOfNums_size, strOfNums_size]
    exact wrap_ok _ (by omega) (by omega)
  by_cases hbig : (encL a).length + (encL b).length ≤ 128
  · rw [enc_ok hr (by omega)]
    refine Ev.step (f := fun k => (ambrylaw02_lives.f k).bind fun t => some t) (fun k => ?_) lives_then
    rw [ambrylaw02_TupleJoins.j1, if_neg (by decide), hw, if_neg (by omega), strOfNums_size, strOfNums_size, if_pos (by omega), if_pos (by rw [encL_append, nums_append]), if_pos rfl]
  · have he : Enc (a ++ b) = (⟨#[]⟩, 5) := by
      unfold Enc
      rw [if_pos hr, if_neg (by omega)]
    rw [he]
    refine Ev.step (f := fun k => (ambrylaw02_lives.f k).bind fun t => some t) (fun k => ?_) lives_then
    rw [ambrylaw02_TupleJoins.j1, if_neg (by decide), hw, if_pos (by omega), if_pos rfl, if_pos empty_list]
end Go.Proofs.Ythcfkilofgfgpaa.A
