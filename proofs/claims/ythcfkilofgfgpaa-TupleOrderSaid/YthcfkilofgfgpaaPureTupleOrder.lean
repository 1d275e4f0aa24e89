/- The bytes of two keys stand as the keys do. -/
import Derived.Test.YthcfkilofgfgpaaM6
import Derived.Test.YthcfkilofgfgpaaAx7
namespace Go.Proofs.Ythcfkilofgfgpaa.A
open Go.RowKit Go.Proofs.YthcfkilofgfgpaaW.PrintWords Go.Proofs.YthcfkilofgfgpaaW.PrintLast Go.Proofs.YthcfkilofgfgpaaW.PrintMore
set_option linter.unusedVariables false
set_option linter.unusedSimpArgs false
theorem few_told (l : List S46) : ambrylaw02_few.f l = some (decide ((l.length : Int) ≤ 1000)) := rfl
theorem order_yes (a b : List S46) : Ev (fun k => ambrylaw02_TupleOrder.j0 k a b true) true :=
  Ev.step (f := fun k => (ambrylaw02_lives.f k).bind fun t => some t) (fun k => by rw [ambrylaw02_TupleOrder.j0, if_pos rfl]) lives_then
theorem order_bad (s t : ByteArray) (e : Int) (he : e ≠ 0) : Ev (fun k => ambrylaw02_TupleOrder.j1 k s t 0 e true) true :=
  Ev.step (f := fun k => (ambrylaw02_lives.f k).bind fun t => some t) (fun k => by rw [ambrylaw02_TupleOrder.j1, if_pos rfl, if_pos rfl, if_neg he]) lives_then
theorem pureTupleOrder (a b : List S46) (ha : PartsOk a) (hb : PartsOk b) : ∃ k, ambrylaw02_TupleOrder.f k a b = some true := by
  refine Ev.rounds (r := true) ?_
  unfold ambrylaw02_TupleOrder.f
  simp only [few_told, Option.bind_some]
  by_cases h1 : (a.length : Int) ≤ 1000
  case neg => exact Ev.congr (f := fun k => ambrylaw02_TupleOrder.j0 k a b true) (fun k => by rw [decide_eq_false h1, if_neg (by decide)]) (order_yes a b)
  by_cases h2 : (b.length : Int) ≤ 1000
  case neg => exact Ev.congr (f := fun k => ambrylaw02_TupleOrder.j0 k a b true) (fun k => by rw [decide_eq_true h1, if_pos rfl, decide_eq_false h2]; rfl) (order_yes a b)
  refine Ev.congr (f := fun k => ambrylaw02_TupleOrder.j0 k a b false) (fun k => by rw [decide_eq_true h1, if_pos rfl, decide_eq_true h2]; rfl) ?_
  refine Ev.step (f := fun k => (tuple_Encode.f k a).bind fun x => (tuple_Encode.f k b).bind fun y => (tuple_Compare.f k a b).bind fun z => (if x.2 = 0 then (ambrylaw02_TupleOrder.j1 k x.1 y.1 z.1 z.2 (y.2 != 0)) else (ambrylaw02_TupleOrder.j1 k x.1 y.1 z.1 z.2 true))) (fun k => by rw [ambrylaw02_TupleOrder.j0, if_neg (by decide)]) ?_
  refine Ev.bind (encode_ev a ha) (Ev.bind (encode_ev b hb) (Ev.bind (compare_ev a b ha hb) ?_))
  unfold Cmp
  by_cases hz1 : (Enc a).2 = 0
  case neg =>
    rw [if_neg hz1]
    exact Ev.congr (f := fun k => ambrylaw02_TupleOrder.j1 k (Enc a).1 (Enc b).1 0 (Enc a).2 true) (fun k => by rw [if_neg hz1]) (order_bad _ _ _ hz1)
  rw [if_pos hz1]
  by_cases hz2 : (Enc b).2 = 0
  case neg =>
    rw [if_neg hz2]
    exact Ev.congr (f := fun k => ambrylaw02_TupleOrder.j1 k (Enc a).1 (Enc b).1 0 (Enc b).2 true) (fun k => by rw [if_pos hz1, bne_iff_ne.2 hz2]) (order_bad _ _ _ hz2)
  rw [if_pos hz2]
  obtain ⟨hr1, hl1⟩ := enc_zero hz1
  obtain ⟨hr2, hl2⟩ := enc_zero hz2
  refine Ev.congr (f := fun k => ambrylaw02_TupleOrder.j1 k (Enc a).1 (Enc b).1 (cmpL a b) 0 false) (fun k => by rw [if_pos hz1, hz2]; rfl) ?_
  rw [enc_ok hr1 hl1, enc_ok hr2 hl2]
  refine Ev.step (f := fun k => (ambrylaw02_lives.f k).bind fun t => some t) (fun k => ?_) lives_then
  have e1 : ((decide (cmpL a b < 0)) == (Op.bytesLess (strOfNums (encL a)).toList (strOfNums (encL b)).toList)) = true := by
    rw [less_bytes, bytes_of_nums _ (encL_bytes a), bytes_of_nums _ (encL_bytes b)]
    rcases cmpL_less a b ha hb hr1 hr2 with ⟨e, h⟩ | ⟨e, h⟩ | ⟨e, h⟩
    · rw [e, h]; rfl
    · rw [e, h, less_irr]; rfl
    · rw [e, less_asym _ _ h]; rfl
  have e2 : ((cmpL a b == 0) == ((strOfNums (encL a)).toList == (strOfNums (encL b)).toList)) = true := by
    have ne : ∀ x y : List S46, lessI (encL x) (encL y) = true → ((strOfNums (encL x)).toList == (strOfNums (encL y)).toList) = false := fun x y h => by
      rw [beq_eq_false_iff_ne]
      intro h2
      have := nums_inj (encL_bytes x) (encL_bytes y) ((toList_iff _ _).1 h2)
      rw [this, less_irr] at h
      cases h
    rcases cmpL_less a b ha hb hr1 hr2 with ⟨e, h⟩ | ⟨e, h⟩ | ⟨e, h⟩
    · rw [e, ne a b h]; rfl
    · rw [e, h]; simp
    · have h3 := ne b a h
      rw [beq_eq_false_iff_ne] at h3
      rw [e, beq_eq_false_iff_ne.2 (fun h4 => h3 h4.symm)]; rfl
  rw [ambrylaw02_TupleOrder.j1, if_neg (by decide), if_pos rfl, if_pos e1, if_pos e2]
end Go.Proofs.Ythcfkilofgfgpaa.A
