/- A key's bytes are read back as the key, and what is read of bytes is written back as the bytes. -/
import Derived.Test.YthcfkilofgfgpaaM9
import Derived.Test.YthcfkilofgfgpaaAx7
namespace Go.Proofs.Ythcfkilofgfgpaa.A
open Go.RowKit Go.Proofs.YthcfkilofgfgpaaW.PrintWords Go.Proofs.YthcfkilofgfgpaaW.PrintLast Go.Proofs.YthcfkilofgfgpaaW.PrintMore
set_option linter.unusedVariables false
set_option linter.unusedSimpArgs false
theorem few_back (l : List S46) : ambrylaw02_few.f l = some (decide ((l.length : Int) ≤ 1000)) := rfl
theorem dec_zero {s : ByteArray} (h : (Dec s).2 = 0) : s.size ≤ 128 ∧ partsOf (bytesOf s) = some (Dec s).1 := by
  unfold Dec at h ⊢
  split at h
  · rename_i h2
    rw [if_pos h2]
    cases e : partsOf (bytesOf s) with
    | none => rw [e] at h; cases h
    | some L => exact ⟨h2, rfl⟩
  · cases h
theorem dec_fst {s : ByteArray} (h : (Dec s).2 ≠ 0) : (Dec s).1 = [] := by
  unfold Dec at h ⊢
  split at h
  · rename_i h2
    rw [if_pos h2]
    cases e : partsOf (bytesOf s) with
    | none => rfl
    | some L => rw [e] at h; exact absurd rfl h
  · rename_i h2
    rw [if_neg h2]
theorem back_then (s : ByteArray) : Ev (fun k => ambrylaw02_TupleBack.j0 k s) true := by
  refine Ev.step (f := fun k => (tuple_Decode.f k s).bind fun bt289 => (if bt289.2 = 0 then ((tuple_Encode.f k bt289.1).bind fun bt293 => (if bt293.1.toList = s.toList then (if bt293.2 = 0 then ((tuple_Check.f k bt289.1).bind fun t295 => (if t295 = 0 then ((ambrylaw02_lives.f k).bind fun t296 => (some t296)) else (some false))) else (some false)) else (some false))) else (if (bt289.1.length : Int) = 0 then ((ambrylaw02_lives.f k).bind fun t297 => (some t297)) else (some false)))) (fun k => by rw [ambrylaw02_TupleBack.j0]) ?_
  refine Ev.bind (decode_ev s) ?_
  by_cases h : (Dec s).2 = 0
  · obtain ⟨h1, h2⟩ := dec_zero h
    obtain ⟨e1, e2, e3⟩ := parts_told _ _ _ (Nat.le_refl _) (by rw [bytesOf_length]; exact h1) (bytes_are s) h2
    have hp := (dec_parts s).1
    have he : Enc (Dec s).1 = (s, 0) := by
      rw [enc_ok (fun p hp => (e2 p hp).1) (by rw [e1, bytesOf_length]; exact h1), e1, nums_of_bytes]
    refine Ev.congr (f := fun k => (tuple_Encode.f k (Dec s).1).bind fun bt293 => (if bt293.1.toList = s.toList then (if bt293.2 = 0 then ((tuple_Check.f k (Dec s).1).bind fun t295 => (if t295 = 0 then ((ambrylaw02_lives.f k).bind fun t296 => (some t296)) else (some false))) else (some false)) else (some false))) (fun k => by rw [if_pos h]) ?_
    refine Ev.bind (encode_ev _ hp) ?_
    refine Ev.congr (f := fun k => (tuple_Check.f k (Dec s).1).bind fun t295 => (if t295 = 0 then ((ambrylaw02_lives.f k).bind fun t296 => (some t296)) else (some false))) (fun k => by rw [he, if_pos rfl, if_pos rfl]) ?_
    refine Ev.bind (check_ev _ hp) ?_
    exact Ev.congr (f := fun k => (ambrylaw02_lives.f k).bind fun t => some t) (fun k => by rw [he, if_pos rfl]) lives_then
  · exact Ev.congr (f := fun k => (ambrylaw02_lives.f k).bind fun t => some t) (fun k => by rw [if_neg h, dec_fst h, if_pos (by rfl)]) lives_then
open Classical in
theorem pureTupleBack (l : List S46) (s : ByteArray) (hl : PartsOk l) (hs : s.size ≤ 140737488351232) : ∃ k, ambrylaw02_TupleBack.f k l s = some true := by
  refine Ev.rounds (r := true) ?_
  have hn := hl.len
  unfold ambrylaw02_TupleBack.f
  simp only [few_back, Option.bind_some]
  by_cases h1 : (l.length : Int) ≤ 1000
  case neg => exact Ev.congr (f := fun k => (ambrylaw02_lives.f k).bind fun t => some t) (fun k => by rw [decide_eq_false h1, if_neg (by decide)]) lives_then
  refine Ev.congr (f := fun k => (tuple_Encode.f k l).bind fun bt281 => (if bt281.2 = 0 then ((tuple_Decode.f k bt281.1).bind fun bt283 => ((ambryref02_Same.f k l bt283.1).bind fun t287 => (if t287 = true then (if bt283.2 = 0 then (if (bt281.1.size : Int) > 128 then (some false) else (ambrylaw02_TupleBack.j0 k s)) else (some false)) else (some false)))) else (if bt281.1.toList = ([] : List UInt8) then ((tuple_Check.f k l).bind fun t288 => (if t288 = bt281.2 then (ambrylaw02_TupleBack.j0 k s) else (some false))) else (some false)))) (fun k => by rw [decide_eq_true h1, if_pos rfl]) ?_
  refine Ev.bind (encode_ev l hl) ?_
  by_cases hz : (Enc l).2 = 0
  · obtain ⟨hr, hlen⟩ := enc_zero hz
    have he := enc_ok hr hlen
    have hsz : (strOfNums (encL l)).size = (encL l).length := strOfNums_size _
    have hd : Dec (strOfNums (encL l)) = (l, 0) := by
      unfold Dec
      rw [if_pos (by omega), bytes_of_nums _ (encL_bytes l), parts_back l hl hr]
    refine Ev.congr (f := fun k => (tuple_Decode.f k (Enc l).1).bind fun bt283 => ((ambryref02_Same.f k l bt283.1).bind fun t287 => (if t287 = true then (if bt283.2 = 0 then (if ((Enc l).1.size : Int) > 128 then (some false) else (ambrylaw02_TupleBack.j0 k s)) else (some false)) else (some false)))) (fun k => by rw [if_pos hz]) ?_
    refine Ev.bind (decode_ev _) ?_
    rw [he, hd]
    refine Ev.bind (same_ev l l (by omega)) ?_
    exact Ev.congr (f := fun k => ambrylaw02_TupleBack.j0 k s) (fun k => by rw [decide_eq_true rfl, if_pos rfl, if_pos rfl, if_neg (by show ¬ (((strOfNums (encL l)).size : Int) > 128); omega)]) (back_then s)
  · refine Ev.congr (f := fun k => (tuple_Check.f k l).bind fun t288 => (if t288 = (Enc l).2 then (ambrylaw02_TupleBack.j0 k s) else (some false))) (fun k => by rw [if_neg hz, enc_fst hz, if_pos (eq_of_beq ((empty_toList ⟨#[]⟩).2 rfl))]) ?_
    refine Ev.bind (check_ev l hl) ?_
    exact Ev.congr (f := fun k => ambrylaw02_TupleBack.j0 k s) (fun k => by rw [if_pos rfl]) (back_then s)
end Go.Proofs.Ythcfkilofgfgpaa.A
