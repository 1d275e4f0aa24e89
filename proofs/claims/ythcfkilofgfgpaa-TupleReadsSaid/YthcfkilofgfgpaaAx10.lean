-- Written for this claim by a program of the session: the kit's printer with hand-written contracts put in. Lean checks it.
import Derived.Test.YthcfkilofgfgpaaAx0
import Derived.Test.YthcfkilofgfgpaaAx2
import Derived.Test.YthcfkilofgfgpaaAx8
import Derived.Test.YthcfkilofgfgpaaAx9
namespace Go.Proofs.Ythcfkilofgfgpaa.A
open Go.RowKit Go.Proofs.YthcfkilofgfgpaaW.PrintWords Go.Proofs.YthcfkilofgfgpaaW.PrintLast Go.Proofs.YthcfkilofgfgpaaW.PrintMore
attribute [local go_sem] max2_int min2_int max_two min_two max_three min_three max_four min_four   -- for this text's walks alone
set_option linter.unusedVariables false
set_option linter.unusedSimpArgs false

/-! ### tuple_Decode: function 20, by hand -/
/-- As Q; by a goto: J of its label. -/
def jumps (J : Nat → Act → World → Prop) (Q : Exit → Act → World → Prop) : Exit → Act → World → Prop
  | .goto l, a, w => J l a w
  | e, a, w => Q e a w
theorem wp_scope4 {P : Program} {c r0 r1 r2 r3 : Code} {a : Act} {w : World} {Q : Exit → Act → World → Prop} (J : Nat → Act → World → Prop) (μ : Nat → Act → World → Nat)
    (h0 : findLabel c 0 = some r0) (h1 : findLabel c 1 = some r1) (h2 : findLabel c 2 = some r2) (h3 : findLabel c 3 = some r3) (hJ : ∀ l a w, J l a w → l < 4)
    (first : c.wp P (jumps J Q) a w)
    (p0 : ∀ a w, J 0 a w → r0.wp P (jumps (fun l' a' w' => J l' a' w' ∧ μ l' a' w' < μ 0 a w) Q) a w)
    (p1 : ∀ a w, J 1 a w → r1.wp P (jumps (fun l' a' w' => J l' a' w' ∧ μ l' a' w' < μ 1 a w) Q) a w)
    (p2 : ∀ a w, J 2 a w → r2.wp P (jumps (fun l' a' w' => J l' a' w' ∧ μ l' a' w' < μ 2 a w) Q) a w)
    (p3 : ∀ a w, J 3 a w → r3.wp P (jumps (fun l' a' w' => J l' a' w' ∧ μ l' a' w' < μ 3 a w) Q) a w) : (Code.scope c).wp P Q a w := by
  intro b k cs
  have hpass : ∀ l a w, J l a w → ∃ rest, findLabel c l = some rest ∧ rest.wp P (jumps (fun l' a' w' => J l' a' w' ∧ μ l' a' w' < μ l a w) Q) a w := by
    intro l a w h
    have hl := hJ l a w h
    match l, hl, h with
    | 0, _, h => exact ⟨r0, h0, p0 a w h⟩
    | 1, _, h => exact ⟨r1, h1, p1 a w h⟩
    | 2, _, h => exact ⟨r2, h2, p2 a w h⟩
    | 3, _, h => exact ⟨r3, h3, p3 a w h⟩
  have hg : ∀ l rest, findLabel c l = some rest → gotoIn l (.inScope c :: k) = some (.code rest :: .inScope c :: k) := fun l rest hf => by simp [gotoIn, hf]
  have key : ∀ n l a w rest, μ l a w = n → J l a w → findLabel c l = some rest → ∃ e a' w', Q e a' w' ∧ Arrives P (lone (b.at a (.code rest :: .inScope c :: k)) cs w) b k cs e a' w' := by
    intro n
    induction n using Nat.strongRecOn with
    | _ n ih =>
      intro l a w rest hn hJl hf
      obtain ⟨rest', hf', hp⟩ := hpass l a w hJl
      obtain rfl : rest' = rest := by rw [hf] at hf'; injection hf' with e; exact e.symm
      obtain ⟨e, a₁, w₁, hq, harr⟩ := hp b (.inScope c :: k) cs
      cases e with
      | normal => exact ⟨.normal, a₁, w₁, hq, Steps.trans harr (.one step_inScope)⟩
      | exit id => exact ⟨.exit id, a₁, w₁, hq, fun k' hk => harr k' (by simp [exitTo, hk])⟩
      | goto l' =>
        obtain ⟨hJ', hlt⟩ := hq
        obtain ⟨r', hr', _⟩ := hpass l' a₁ w₁ hJ'
        obtain ⟨e₂, a₂, w₂, hq₂, harr₂⟩ := ih _ (by omega) l' a₁ w₁ r' rfl hJ' hr'
        exact ⟨e₂, a₂, w₂, hq₂, .of_steps (harr _ (hg l' r' hr')) harr₂⟩
      | ret => exact ⟨_, a₁, w₁, hq, harr⟩
      | panic ch => exact ⟨_, a₁, w₁, hq, harr⟩
      | outgrown => exact ⟨_, a₁, w₁, hq, harr⟩
  obtain ⟨e, a₁, w₁, hq, harr⟩ := first b (.inScope c :: k) cs
  cases e with
  | normal => exact ⟨.normal, a₁, w₁, hq, .head step_scope (Steps.trans harr (.one step_inScope))⟩
  | exit id => exact ⟨.exit id, a₁, w₁, hq, fun k' hk => .head step_scope (harr k' (by simp [exitTo, hk]))⟩
  | goto l' =>
    obtain ⟨r', hr', _⟩ := hpass l' a₁ w₁ hq
    obtain ⟨e₂, a₂, w₂, hq₂, harr₂⟩ := key _ l' a₁ w₁ r' rfl hq hr'
    exact ⟨e₂, a₂, w₂, hq₂, .of_steps (.head step_scope (harr _ (hg l' r' hr'))) harr₂⟩
  | ret => exact ⟨_, a₁, w₁, hq, .of_steps (.one step_scope) harr⟩
  | panic ch => exact ⟨_, a₁, w₁, hq, .of_steps (.one step_scope) harr⟩
  | outgrown => exact ⟨_, a₁, w₁, hq, .of_steps (.one step_scope) harr⟩
theorem scanT_le : ∀ (n : Nat) (l : List Int) (p : List Int × Nat), l.length ≤ n → scanT l = some p → p.2 ≤ l.length ∧ 0 < p.2
  | 0, l, p, hn, h => by
    obtain rfl : l = [] := List.eq_nil_of_length_eq_zero (by omega)
    simp [scanT] at h
  | n + 1, [], p, hn, h => by simp [scanT] at h
  | n + 1, [_], p, hn, h => by simp [scanT] at h
  | n + 1, c :: d :: m, p, hn, h => by
    rw [scanT] at h
    simp only [List.length_cons] at hn ⊢
    split at h
    · split at h
      · cases h
        simp
      · split at h
        · obtain ⟨q, hq, rfl⟩ := Option.map_eq_some_iff.mp h
          have := scanT_le n m q (by omega) hq
          simp
          omega
        · cases h
    · obtain ⟨q, hq, rfl⟩ := Option.map_eq_some_iff.mp h
      have := scanT_le n (d :: m) q (by simp only [List.length_cons]; omega) hq
      simp only [List.length_cons] at this
      simp
      omega
/-- A number of eight bytes, each turned by a mask. -/
def numOf (m : Int) (l : List Int) : Int := wrap64 (Go.bits .xor .u64 (rdAll m l) 9223372036854775808)
/-- The parts of bytes (with as many rounds as there are bytes, and one). -/
def partsN : Nat → List Int → Option (List S46)
  | 0, _ => none
  | _ + 1, [] => some []
  | n + 1, c :: l =>
    if c = 2 then (match scanT l with | none => none | some p => (partsN n (l.drop p.2)).map ((⟨1, 0, strOfNums p.1⟩ : S46) :: ·))
    else if c = 3 then (if l.length < 8 then none else (partsN n (l.drop 8)).map ((⟨2, numOf 0 (l.take 8), ⟨#[]⟩⟩ : S46) :: ·))
    else if c = 4 then (if l.length < 8 then none else (partsN n (l.drop 8)).map ((⟨3, numOf 255 (l.take 8), ⟨#[]⟩⟩ : S46) :: ·))
    else none
theorem partsN_more : ∀ (n m : Nat) (l : List Int), l.length < n → l.length < m → partsN n l = partsN m l
  | 0, _, l, h, _ => by omega
  | _, 0, l, _, h => by omega
  | n + 1, m + 1, [], _, _ => rfl
  | n + 1, m + 1, c :: l, h, k => by
    simp only [List.length_cons] at h k
    have ih : ∀ j, partsN n (l.drop j) = partsN m (l.drop j) := fun j => partsN_more n m _ (by rw [List.length_drop]; omega) (by rw [List.length_drop]; omega)
    simp only [partsN, ih]
def partsOf (l : List Int) : Option (List S46) := partsN (l.length + 1) l
theorem partsOf_nil : partsOf [] = some [] := rfl
theorem partsN_of (n : Nat) (l : List Int) (h : l.length < n) : partsN n l = partsOf l := partsN_more _ _ _ h (by omega)
/-- What a text, some of which has been read, and what stands behind it come to. -/
def textOn (t : List Int) (l : List Int) : Option (List S46) := match scanT l with | none => none | some p => (partsOf (l.drop p.2)).map ((⟨1, 0, strOfNums (t ++ p.1)⟩ : S46) :: ·)
theorem partsOf_cons (c : Int) (l : List Int) : partsOf (c :: l) =
    if c = 2 then textOn [] l
    else if c = 3 then (if l.length < 8 then none else (partsOf (l.drop 8)).map ((⟨2, numOf 0 (l.take 8), ⟨#[]⟩⟩ : S46) :: ·))
    else if c = 4 then (if l.length < 8 then none else (partsOf (l.drop 8)).map ((⟨3, numOf 255 (l.take 8), ⟨#[]⟩⟩ : S46) :: ·))
    else none := by
  unfold partsOf textOn
  have ih : ∀ j, partsN (l.length + 1) (l.drop j) = partsN ((l.drop j).length + 1) (l.drop j) := fun j => partsN_more _ _ _ (by rw [List.length_drop]; omega) (by omega)
  simp only [List.length_cons, partsN, ih, List.nil_append]
  rfl
theorem textOn_plain (t : List Int) (c : Int) (l : List Int) (h : c ≠ 0) : textOn t (c :: l) = textOn (t ++ [c]) l := by
  unfold textOn
  rw [scanT_plain c l h]
  cases scanT l with
  | none => rfl
  | some p => simp
theorem textOn_esc (t : List Int) (l : List Int) : textOn t (0 :: 255 :: l) = textOn (t ++ [0]) l := by
  unfold textOn
  rw [scanT, if_pos rfl, if_neg (by decide), if_pos rfl]
  cases scanT l with
  | none => rfl
  | some p => simp
theorem textOn_end (t : List Int) (l : List Int) : textOn t (0 :: 1 :: l) = (partsOf l).map ((⟨1, 0, strOfNums t⟩ : S46) :: ·) := by
  unfold textOn
  rw [scanT, if_pos rfl, if_pos rfl]
  simp
theorem textOn_bad (t : List Int) (d : Int) (l : List Int) (h1 : d ≠ 1) (h2 : d ≠ 255) : textOn t (0 :: d :: l) = none := by
  unfold textOn
  rw [scanT, if_pos rfl, if_neg h1, if_neg h2]
theorem textOn_nil (t : List Int) : textOn t [] = none := rfl
theorem textOn_one (t : List Int) (c : Int) : textOn t [c] = none := rfl
def DecSays (B : List Int) (a0 : ByteArray) (l i : Nat) (L : List S46) (t : List Int) : Prop :=
  match l with
  | 0 => partsOf B = (partsOf (B.drop i)).map (L ++ ·)
  | 1 => partsOf B = (textOn t (B.drop i)).map (L ++ ·)
  | 2 => 1 ≤ i ∧ (bt a0 ((i - 1 : Nat) : Int) = 3 ∨ bt a0 ((i - 1 : Nat) : Int) = 4) ∧ partsOf B = (partsOf (B.drop (i - 1))).map (L ++ ·)
  | 3 => partsOf B = none
  | _ => False
structure DecJ (a0 : ByteArray) (w : World) (l : Nat) (vo vt : Value) (i : Nat) (w' : World) : Prop where
  le : i ≤ a0.size
  below : Below w.heap.size w w'
  says : ∃ (L : List S46) (t : List Int), Kd.R k46 46 w' w.heap.size (fun _ => True) vo L ∧ Kd.R (Kd.int .u8) 5 w' w.heap.size (fun _ => True) vt t ∧ L.length ≤ i ∧ t.length ≤ i ∧ DecSays (bytesOf a0) a0 l i L t
def DecPost (a0 : ByteArray) (w : World) (e : Ending) (w' : World) : Prop := Below w.heap.size w w' ∧ ∃ v,
  e = .returned (.tuple #[v, .int .i64 (match partsOf (bytesOf a0) with | none => 4 | some _ => 0)]) ∧ Kd.R k46 46 w' w.heap.size (fun _ => True) v (match partsOf (bytesOf a0) with | none => [] | some L => L)
theorem DecPost.bad {a0 : ByteArray} {w w' : World} {e : Ending} (h : partsOf (bytesOf a0) = none) (he : e = .returned (.tuple #[.slice none 0 0, .int .i64 4])) (hb : Below w.heap.size w w') : DecPost a0 w e w' := ⟨hb, _, by rw [h]; exact he, by rw [h]; exact Kd.R_nil _ _ _ _ _⟩
theorem DecPost.ok {a0 : ByteArray} {w w' : World} {e : Ending} {v : Value} {L : List S46} (h : partsOf (bytesOf a0) = some L) (he : e = .returned (.tuple #[v, .int .i64 0])) (hr : Kd.R k46 46 w' w.heap.size (fun _ => True) v L) (hb : Below w.heap.size w w') : DecPost a0 w e w' := ⟨hb, v, by rw [h]; exact he, by rw [h]; exact hr⟩

/-- A frame of 99 slots, of which four are known. -/
def decF (a0 : ByteArray) (vo vt vi : Value) (u : Nat → Value) : Act := { tmps := #[.string a0, u 1, u 2, u 3, vo, vt, vi, u 7, u 8, u 9, u 10, u 11, u 12, u 13, u 14, u 15, u 16, u 17, u 18, u 19, u 20, u 21, u 22, u 23, u 24, u 25, u 26, u 27, u 28, u 29, u 30, u 31, u 32, u 33, u 34, u 35, u 36, u 37, u 38, u 39, u 40, u 41, u 42, u 43, u 44, u 45, u 46, u 47, u 48, u 49, u 50, u 51, u 52, u 53, u 54, u 55, u 56, u 57, u 58, u 59, u 60, u 61, u 62, u 63, u 64, u 65, u 66, u 67, u 68, u 69, u 70, u 71, u 72, u 73, u 74, u 75, u 76, u 77, u 78, u 79, u 80, u 81, u 82, u 83, u 84, u 85, u 86, u 87, u 88, u 89, u 90, u 91, u 92, u 93, u 94, u 95, u 96, u 97, u 98], defers := [] }
structure DecFr (a0 : ByteArray) (vo vt vi : Value) (a : Act) : Prop where
  defers : a.defers = []
  size : a.tmps.size = 99
  s0 : a.tmps.getD 0 undef = .string a0
  s4 : a.tmps.getD 4 undef = vo
  s5 : a.tmps.getD 5 undef = vt
  s6 : a.tmps.getD 6 undef = vi
theorem list_told (l : List Value) : l = (List.range l.length).map (fun j => l.getD j undef) := by
  apply List.ext_getElem
  · simp
  · intro n h1 h2
    simp [List.getD_eq_getElem?_getD, List.getElem?_eq_getElem h1]
set_option maxRecDepth 100000 in
theorem DecFr.told {a0 : ByteArray} {vo vt vi : Value} {a : Act} (h : DecFr a0 vo vt vi a) : ∃ u, a = decF a0 vo vt vi u := by
  obtain ⟨⟨l⟩, d⟩ := a
  obtain ⟨h0, h1, h2, h3, h4, h5⟩ := h
  refine ⟨fun j => l.getD j undef, ?_⟩
  have hd : d = [] := h0
  have hl : l.length = 99 := h1
  have e := list_told l
  rw [hl] at e
  have e2 : l = [l.getD 0 undef, l.getD 1 undef, l.getD 2 undef, l.getD 3 undef, l.getD 4 undef, l.getD 5 undef, l.getD 6 undef, l.getD 7 undef, l.getD 8 undef, l.getD 9 undef, l.getD 10 undef, l.getD 11 undef, l.getD 12 undef, l.getD 13 undef, l.getD 14 undef, l.getD 15 undef, l.getD 16 undef, l.getD 17 undef, l.getD 18 undef, l.getD 19 undef, l.getD 20 undef, l.getD 21 undef, l.getD 22 undef, l.getD 23 undef, l.getD 24 undef, l.getD 25 undef, l.getD 26 undef, l.getD 27 undef, l.getD 28 undef, l.getD 29 undef, l.getD 30 undef, l.getD 31 undef, l.getD 32 undef, l.getD 33 undef, l.getD 34 undef, l.getD 35 undef, l.getD 36 undef, l.getD 37 undef, l.getD 38 undef, l.getD 39 undef, l.getD 40 undef, l.getD 41 undef, l.getD 42 undef, l.getD 43 undef, l.getD 44 undef, l.getD 45 undef, l.getD 46 undef, l.getD 47 undef, l.getD 48 undef, l.getD 49 undef, l.getD 50 undef, l.getD 51 undef, l.getD 52 undef, l.getD 53 undef, l.getD 54 undef, l.getD 55 undef, l.getD 56 undef, l.getD 57 undef, l.getD 58 undef, l.getD 59 undef, l.getD 60 undef, l.getD 61 undef, l.getD 62 undef, l.getD 63 undef, l.getD 64 undef, l.getD 65 undef, l.getD 66 undef, l.getD 67 undef, l.getD 68 undef, l.getD 69 undef, l.getD 70 undef, l.getD 71 undef, l.getD 72 undef, l.getD 73 undef, l.getD 74 undef, l.getD 75 undef, l.getD 76 undef, l.getD 77 undef, l.getD 78 undef, l.getD 79 undef, l.getD 80 undef, l.getD 81 undef, l.getD 82 undef, l.getD 83 undef, l.getD 84 undef, l.getD 85 undef, l.getD 86 undef, l.getD 87 undef, l.getD 88 undef, l.getD 89 undef, l.getD 90 undef, l.getD 91 undef, l.getD 92 undef, l.getD 93 undef, l.getD 94 undef, l.getD 95 undef, l.getD 96 undef, l.getD 97 undef, l.getD 98 undef] := e
  have g0 : l.getD 0 undef = .string a0 := by simpa using h2
  have g4 : l.getD 4 undef = vo := by simpa using h3
  have g5 : l.getD 5 undef = vt := by simpa using h4
  have g6 : l.getD 6 undef = vi := by simpa using h5
  have e3 : (⟨⟨l⟩, d⟩ : Act) = ⟨⟨[l.getD 0 undef, l.getD 1 undef, l.getD 2 undef, l.getD 3 undef, l.getD 4 undef, l.getD 5 undef, l.getD 6 undef, l.getD 7 undef, l.getD 8 undef, l.getD 9 undef, l.getD 10 undef, l.getD 11 undef, l.getD 12 undef, l.getD 13 undef, l.getD 14 undef, l.getD 15 undef, l.getD 16 undef, l.getD 17 undef, l.getD 18 undef, l.getD 19 undef, l.getD 20 undef, l.getD 21 undef, l.getD 22 undef, l.getD 23 undef, l.getD 24 undef, l.getD 25 undef, l.getD 26 undef, l.getD 27 undef, l.getD 28 undef, l.getD 29 undef, l.getD 30 undef, l.getD 31 undef, l.getD 32 undef, l.getD 33 undef, l.getD 34 undef, l.getD 35 undef, l.getD 36 undef, l.getD 37 undef, l.getD 38 undef, l.getD 39 undef, l.getD 40 undef, l.getD 41 undef, l.getD 42 undef, l.getD 43 undef, l.getD 44 undef, l.getD 45 undef, l.getD 46 undef, l.getD 47 undef, l.getD 48 undef, l.getD 49 undef, l.getD 50 undef, l.getD 51 undef, l.getD 52 undef, l.getD 53 undef, l.getD 54 undef, l.getD 55 undef, l.getD 56 undef, l.getD 57 undef, l.getD 58 undef, l.getD 59 undef, l.getD 60 undef, l.getD 61 undef, l.getD 62 undef, l.getD 63 undef, l.getD 64 undef, l.getD 65 undef, l.getD 66 undef, l.getD 67 undef, l.getD 68 undef, l.getD 69 undef, l.getD 70 undef, l.getD 71 undef, l.getD 72 undef, l.getD 73 undef, l.getD 74 undef, l.getD 75 undef, l.getD 76 undef, l.getD 77 undef, l.getD 78 undef, l.getD 79 undef, l.getD 80 undef, l.getD 81 undef, l.getD 82 undef, l.getD 83 undef, l.getD 84 undef, l.getD 85 undef, l.getD 86 undef, l.getD 87 undef, l.getD 88 undef, l.getD 89 undef, l.getD 90 undef, l.getD 91 undef, l.getD 92 undef, l.getD 93 undef, l.getD 94 undef, l.getD 95 undef, l.getD 96 undef, l.getD 97 undef, l.getD 98 undef]⟩, []⟩ := by rw [hd]; exact congrArg (fun x : List Value => (⟨⟨x⟩, []⟩ : Act)) e2
  rw [e3, g0, g4, g5, g6]
  rfl
def decJ (a0 : ByteArray) (w : World) (l : Nat) (a : Act) (w' : World) : Prop := l < 4 ∧ ∃ (vo vt : Value) (i : Nat), DecFr a0 vo vt (.int .i64 i) a ∧ DecJ a0 w l vo vt i w'
def decM (a0 : ByteArray) (l : Nat) (a : Act) (_ : World) : Nat := 2 * (a0.size - (intOf (a.tmps.getD 6 undef)).toNat) + (if l = 3 then 0 else 1)
theorem row_ne {w : World} {b : Nat} {ok1 ok2 : Nat → Prop} {vo vt : Value} {L : List S46} {t : List Int} (ho : Kd.R k46 46 w b ok1 vo L) (ht : Kd.R (Kd.int .u8) 5 w b ok2 vt t) : ∀ k, vt.ownBlock = some k → some k ≠ vo.ownBlock := by
  intro k hk he
  obtain ⟨_, h1⟩ := Kd.R_own ho
  obtain ⟨_, h2⟩ := Kd.R_own ht
  rcases own_type_ne h2 h1 (by decide) with h | h
  · rw [h] at hk; cases hk
  · exact h (hk.trans he)
theorem row_ne2 {w : World} {b : Nat} {ok1 ok2 : Nat → Prop} {vo vt : Value} {L : List S46} {t : List Int} (ho : Kd.R k46 46 w b ok1 vo L) (ht : Kd.R (Kd.int .u8) 5 w b ok2 vt t) : ∀ k, vo.ownBlock = some k → some k ≠ vt.ownBlock := by
  intro k hk he
  exact row_ne ho ht k he.symm hk.symm
theorem bytes_sub (s : ByteArray) (i : Nat) (h : i + 8 ≤ s.size) : bytesOf (s.extract i (i + 8)) = ((bytesOf s).drop i).take 8 := by
  unfold bytesOf
  rw [← List.map_drop, ← List.map_take]
  congr 1
  simp

set_option maxHeartbeats 3200000 in
set_option maxRecDepth 200000 in
theorem dec_calls (a0 : ByteArray) (w : World) (hs : a0.size ≤ 128) :
    Calls Try.prog 20 #[.string a0] w fun e w' => DecPost a0 w e w' := by
  have hs1 : decide (128 < (a0.size : Int)) = false := decide_eq_false (by omega)
  have hs2 : (a0.size : Int) ≤ 128 := by omega
  have HSZ := Aside0.mk hs
  go_enter Try.func20, Try.ntmps20
  go_wp2
  refine wp_scope4 (decJ a0 w) (decM a0) rfl rfl rfl rfl (fun l a w h => h.1) ?first ?p0 ?p1 ?p2 ?p3
  case first =>
    have HB := Aside0.mk (Below.refl w.heap.size w)
    have HO := Aside0.mk (show Kd.R k46 46 w w.heap.size (fun _ => True) (.slice none 0 0) [] from Kd.R_nil _ _ _ _ _)
    have HS : Aside0 (partsOf (bytesOf a0) = (partsOf ((bytesOf a0).drop 0)).map ([] ++ ·)) := ⟨by simp⟩
    go_wp2
    go_step3
    by_cases hlt : 0 < a0.size
    · have hq : ((0 : Int) == (a0.size : Int)) = false := beq_eq_false_iff_ne.2 (by omega)
      obtain ⟨c, hc⟩ : ∃ c, bt a0 (0 : Int) = c := ⟨_, rfl⟩
      have hbi : ((a0[0]'hlt).toNat : Int) = c := by rw [← hc]; exact bt_at a0 (0 : Int) hlt
      have HD := Aside0.mk (show (bytesOf a0).drop 0 = bt a0 (0 : Int) :: (bytesOf a0).drop 1 from bytes_drop a0 0 hlt)
      have HC := Aside0.mk hc
      clear hc
      by_cases h2 : c = 2
      · subst h2
        have q2 : ((2 : Int) == 2) = true := rfl
        go_wp2
        (go_step3; exact ⟨by decide, _, _, 1, ⟨rfl, rfl, rfl, rfl, rfl, by go_num⟩, ⟨by omega, HB.out, [], [], HO.out, Kd.R_nil _ _ _ _ _, by simp, by simp, (show partsOf (bytesOf a0) = (textOn [] ((bytesOf a0).drop 1)).map ([] ++ ·) by rw [HS.out, HD.out, HC.out, partsOf_cons, if_pos rfl])⟩⟩)
      have q2 : (c == 2) = false := beq_eq_false_iff_ne.2 h2
      by_cases h3 : c = 3
      · subst h3
        have q3 : ((3 : Int) == 3) = true := rfl
        clear h2
        go_wp2
        (go_step3; exact ⟨by decide, _, _, 1, ⟨rfl, rfl, rfl, rfl, rfl, by go_num⟩, ⟨by omega, HB.out, [], [], HO.out, Kd.R_nil _ _ _ _ _, by simp, by simp, ⟨by omega, Or.inl HC.out, (show partsOf (bytesOf a0) = (partsOf ((bytesOf a0).drop 0)).map ([] ++ ·) from HS.out)⟩⟩⟩)
      have q3 : (c == 3) = false := beq_eq_false_iff_ne.2 h3
      by_cases h4 : c = 4
      · subst h4
        have q4 : ((4 : Int) == 4) = true := rfl
        clear h2 h3
        go_wp2
        (go_step3; exact ⟨by decide, _, _, 1, ⟨rfl, rfl, rfl, rfl, rfl, by go_num⟩, ⟨by omega, HB.out, [], [], HO.out, Kd.R_nil _ _ _ _ _, by simp, by simp, ⟨by omega, Or.inr HC.out, (show partsOf (bytesOf a0) = (partsOf ((bytesOf a0).drop 0)).map ([] ++ ·) from HS.out)⟩⟩⟩)
      have q4 : (c == 4) = false := beq_eq_false_iff_ne.2 h4
      have HN : Aside0 (partsOf (bytesOf a0) = none) := ⟨by rw [HS.out, HD.out, HC.out, partsOf_cons, if_neg h2, if_neg h3, if_neg h4]; rfl⟩
      clear h2 h3 h4
      go_wp2
      (go_step3; exact ⟨by decide, _, _, 1, ⟨rfl, rfl, rfl, rfl, rfl, by go_num⟩, ⟨by omega, HB.out, [], [], HO.out, Kd.R_nil _ _ _ _ _, by simp, by simp, HN.out⟩⟩)
    · have hz : a0.size = 0 := by omega
      have hq : ((0 : Int) == (a0.size : Int)) = true := beq_iff_eq.2 (by omega)
      have HN : Aside0 (partsOf (bytesOf a0) = some []) := ⟨by rw [List.eq_nil_of_length_eq_zero (l := bytesOf a0) (by rw [bytesOf_length]; exact hz)]; rfl⟩
      clear hlt hz
      go_wp2
      simp only [jumps]
      go_ret2
      exact DecPost.ok HN.out rfl HO.out HB.out
  case p0 =>
    rintro a w' ⟨-, vo, vt, i, hF, hJ⟩
    obtain ⟨u, rfl⟩ := hF.told
    clear hF
    unfold decF
    obtain ⟨L, t, ho, ht, hL, ht2, hS⟩ := hJ.says
    have hle := hJ.le
    have HB := Aside0.mk hJ.below
    have HO := Aside0.mk ho
    have HT := Aside0.mk ht
    have HL := Aside0.mk hL
    have HTL := Aside0.mk ht2
    have HS : Aside0 (partsOf (bytesOf a0) = (partsOf ((bytesOf a0).drop i)).map (L ++ ·)) := ⟨hS⟩
    clear hJ ho ht hL ht2 hS
    by_cases hlt : i < a0.size
    · have hq : ((i : Int) == (a0.size : Int)) = false := beq_eq_false_iff_ne.2 (by omega)
      obtain ⟨c, hc⟩ : ∃ c, bt a0 (i : Int) = c := ⟨_, rfl⟩
      have hbi : ((a0[i]'hlt).toNat : Int) = c := by rw [← hc]; exact bt_at a0 (i : Int) hlt
      have HD := Aside0.mk (show (bytesOf a0).drop i = bt a0 (i : Int) :: (bytesOf a0).drop (i + 1) from bytes_drop a0 i hlt)
      have HC := Aside0.mk hc
      clear hc
      by_cases h2 : c = 2
      · subst h2
        have q2 : ((2 : Int) == 2) = true := rfl
        go_wp2
        (go_step3; exact ⟨⟨by decide, _, _, (i + 1), ⟨rfl, rfl, rfl, rfl, rfl, by go_num⟩, ⟨by omega, HB.out, L, [], HO.out, Kd.R_nil _ _ _ _ _, by have := HL.out; omega, by simp, (show partsOf (bytesOf a0) = (textOn [] ((bytesOf a0).drop (i + 1))).map (L ++ ·) by rw [HS.out, HD.out, HC.out, partsOf_cons, if_pos rfl])⟩⟩, by simp [decM, intOf]; first | done | omega⟩)
      have q2 : (c == 2) = false := beq_eq_false_iff_ne.2 h2
      by_cases h3 : c = 3
      · subst h3
        have q3 : ((3 : Int) == 3) = true := rfl
        clear h2
        go_wp2
        (go_step3; exact ⟨⟨by decide, _, _, (i + 1), ⟨rfl, rfl, rfl, rfl, rfl, by go_num⟩, ⟨by omega, HB.out, L, t, HO.out, HT.out, by have := HL.out; omega, by have := HTL.out; omega, ⟨by omega, Or.inl HC.out, (show partsOf (bytesOf a0) = (partsOf ((bytesOf a0).drop i)).map (L ++ ·) from HS.out)⟩⟩⟩, by simp [decM, intOf]; first | done | omega⟩)
      have q3 : (c == 3) = false := beq_eq_false_iff_ne.2 h3
      by_cases h4 : c = 4
      · subst h4
        have q4 : ((4 : Int) == 4) = true := rfl
        clear h2 h3
        go_wp2
        (go_step3; exact ⟨⟨by decide, _, _, (i + 1), ⟨rfl, rfl, rfl, rfl, rfl, by go_num⟩, ⟨by omega, HB.out, L, t, HO.out, HT.out, by have := HL.out; omega, by have := HTL.out; omega, ⟨by omega, Or.inr HC.out, (show partsOf (bytesOf a0) = (partsOf ((bytesOf a0).drop i)).map (L ++ ·) from HS.out)⟩⟩⟩, by simp [decM, intOf]; first | done | omega⟩)
      have q4 : (c == 4) = false := beq_eq_false_iff_ne.2 h4
      have HN : Aside0 (partsOf (bytesOf a0) = none) := ⟨by rw [HS.out, HD.out, HC.out, partsOf_cons, if_neg h2, if_neg h3, if_neg h4]; rfl⟩
      clear h2 h3 h4
      go_wp2
      (go_step3; exact ⟨⟨by decide, _, _, (i + 1), ⟨rfl, rfl, rfl, rfl, rfl, by go_num⟩, ⟨by omega, HB.out, L, t, HO.out, HT.out, by have := HL.out; omega, by have := HTL.out; omega, HN.out⟩⟩, by simp [decM, intOf]; first | done | omega⟩)
    · have hi : i = a0.size := by omega
      subst hi
      have hq : ((a0.size : Int) == (a0.size : Int)) = true := beq_self_eq_true _
      have HN : Aside0 (partsOf (bytesOf a0) = some L) := ⟨by rw [HS.out, bytes_drop_all, partsOf_nil]; simp⟩
      go_wp2
      simp only [jumps]
      go_ret2
      exact DecPost.ok HN.out rfl HO.out HB.out
  case p1 =>
    rintro a w' ⟨-, vo, vt, i, hF, hJ⟩
    obtain ⟨u, rfl⟩ := hF.told
    clear hF
    unfold decF
    obtain ⟨L, t, ho, ht, hL, ht2, hS⟩ := hJ.says
    have hle := hJ.le
    have HB := Aside0.mk hJ.below
    have HO := Aside0.mk ho
    have HT := Aside0.mk ht
    have HL := Aside0.mk hL
    have HTL := Aside0.mk ht2
    have HS : Aside0 (partsOf (bytesOf a0) = (textOn t ((bytesOf a0).drop i)).map (L ++ ·)) := ⟨hS⟩
    have HNE := Aside0.mk (row_ne ho ht)
    clear hJ ho ht hL ht2 hS
    by_cases hlt : i < a0.size
    · have hq : ((i : Int) == (a0.size : Int)) = false := beq_eq_false_iff_ne.2 (by omega)
      obtain ⟨c, hc⟩ : ∃ c, bt a0 (i : Int) = c := ⟨_, rfl⟩
      have hbi : ((a0[i]'hlt).toNat : Int) = c := by rw [← hc]; exact bt_at a0 (i : Int) hlt
      have HD := Aside0.mk (bytes_drop a0 i hlt)
      have HC := Aside0.mk hc
      clear hc
      by_cases h0 : c = 0
      · subst h0
        have q0 : ((0 : Int) != 0) = false := rfl
        by_cases hl : i + 1 = a0.size
        · have hq2 : ((i : Int) + 1 == (a0.size : Int)) = true := beq_iff_eq.2 (by omega)
          have HN : Aside0 (partsOf (bytesOf a0) = none) := ⟨by rw [HS.out, HD.out, HC.out, hl, bytes_drop_all]; rfl⟩
          have HI := Aside0.mk hl
          clear hl
          go_wp2
          (go_step3; exact ⟨⟨by decide, _, _, (i + 1), ⟨rfl, rfl, rfl, rfl, rfl, by go_num⟩, ⟨by omega, HB.out, L, t, HO.out, HT.out, by have := HL.out; omega, by have := HTL.out; omega, HN.out⟩⟩, by simp [decM, intOf]; first | done | omega⟩)
        · have hl2 : i + 1 < a0.size := by omega
          have hq2 : ((i : Int) + 1 == (a0.size : Int)) = false := beq_eq_false_iff_ne.2 (by omega)
          obtain ⟨d, hd⟩ : ∃ d, bt a0 ((i + 1 : Nat) : Int) = d := ⟨_, rfl⟩
          have hbj : ((a0[i + 1]'hl2).toNat : Int) = d := by rw [← hd]; exact bt_at a0 ((i + 1 : Nat) : Int) hl2
          have HD2 := Aside0.mk (bytes_drop a0 (i + 1) hl2)
          have HE := Aside0.mk hd
          clear hl hd
          by_cases d2 : d = 255
          · subst d2
            have p2 : ((255 : Int) == 255) = true := rfl
            go_wp2_with (first | ((with_reducible refine gate_builtin (b := .append) (xs := #[.tmp 88, .tmp 89]) rfl ?_); at_builtin; refine Kd.R_append (Kd.int .u8) (w0 := w) w.heap.size rfl (.tmp 88) (.tmp 89) 54 5 (.int .u8 0) 1 rfl Try.underlying54 info5 rfl (by decide) (by omega) vt t (0) [.int .u8 (0)] (fun _ => True) (fun _ => False) rfl rfl ?aP (fun _ hk => hk.elim) (fun _ _ => trivial) HT.out HB.out HB.out.size ?aL ?_; (case aP => exact rfl); (case aL => (have := HTL.out; omega)); intro v5 w5 ho5 hb5 hg5 hat5; have HT5 := Aside0.mk ho5; have HB5 := Aside0.mk hb5; have HO5 := Aside0.mk (Kd.R_grown2 HO.out rfl hg5 HNE.out); clear ho5 hb5 hg5 hat5))
            (go_step3; exact ⟨⟨by decide, _, _, (i + 2), ⟨rfl, rfl, rfl, rfl, rfl, by go_num⟩, ⟨by omega, HB5.out, L, _, HO5.out, HT5.out, by have := HL.out; omega, by rw [List.length_append, List.length_singleton]; have := HTL.out; omega, (show partsOf (bytesOf a0) = (textOn (t ++ [0]) ((bytesOf a0).drop (i + 2))).map (L ++ ·) by rw [HS.out, HD.out, HC.out, HD2.out, HE.out, textOn_esc])⟩⟩, by simp [decM, intOf]; first | done | omega⟩)
          have p2 : (d == 255) = false := beq_eq_false_iff_ne.2 d2
          by_cases d1 : d = 1
          · subst d1
            have p1 : ((1 : Int) == 1) = true := rfl
            have hconv : (convert 54 9 vt).run Try.prog w' = .ok (.string (strOfNums t)) w' := own_string Try.underlying54 Try.underlying5 Try.underlying9 (Kd.own_of_R HT.out)
            clear d2
            go_wp2_with (first | ((with_reducible refine gate_dst (N := 95) rfl ?_); refine Kd.event_run rfl (by go_simp; first | done | rfl) ?_) | ((with_reducible refine gate_builtin (b := .append) (xs := #[.tmp 93, .tmp 97]) rfl ?_); at_builtin; refine Kd.R_append k46 (w0 := w) w.heap.size rfl (.tmp 93) (.tmp 97) 22 46 (.agg #[(.int .i64 0), (.int .i64 0), (.string ⟨#[]⟩)]) 32 rfl Try.underlying22 info46 rfl (by decide) (by omega) vo L (⟨1, 0, strOfNums t⟩ : S46) [.int .i64 1, .int .i64 0, .string (strOfNums t)] (fun _ => True) (fun _ => False) rfl (by first | (go_simp; done) | (go_simp; rfl)) ?aP (fun _ hk => hk.elim) (fun _ _ => trivial) HO.out HB.out HB.out.size ?aL ?_; (case aP => exact k46_mkM _ _ _ (⟨1, 0, strOfNums t⟩ : S46)); (case aL => (have := HL.out; omega)); intro v6 w6 ho6 hb6 hg6 hat6; have HO6 := Aside0.mk ho6; have HB6 := Aside0.mk hb6; have HT6 := Aside0.mk (Kd.R_grown2 HT.out rfl hg6 (row_ne2 HO.out HT.out)); clear ho6 hb6 hg6 hat6))
            (go_step3; exact ⟨⟨by decide, _, _, (i + 2), ⟨rfl, rfl, rfl, rfl, rfl, by go_num⟩, ⟨by omega, HB6.out, _, t, HO6.out, HT6.out, by rw [List.length_append, List.length_singleton]; have := HL.out; omega, by have := HTL.out; omega, (show partsOf (bytesOf a0) = (partsOf ((bytesOf a0).drop (i + 2))).map ((L ++ [(⟨1, 0, strOfNums t⟩ : S46)]) ++ ·) by rw [HS.out, HD.out, HC.out, HD2.out, HE.out, textOn_end, Option.map_map]; congr 1; funext p; simp)⟩⟩, by simp [decM, intOf]; first | done | omega⟩)
          have p1 : (d == 1) = false := beq_eq_false_iff_ne.2 d1
          have HN : Aside0 (partsOf (bytesOf a0) = none) := ⟨by rw [HS.out, HD.out, HC.out, HD2.out, HE.out, textOn_bad t d _ d1 d2]; rfl⟩
          clear d1 d2
          go_wp2
          go_step3
          go_wp2
          simp only [jumps]
          go_ret2
          exact DecPost.bad HN.out rfl HB.out
      · have q0 : (c != 0) = true := by simpa using h0
        have HZ := Aside0.mk h0
        clear h0
        go_wp2_with (first | ((with_reducible refine gate_builtin (b := .append) (xs := #[.tmp 69, .tmp 74]) rfl ?_); at_builtin; refine Kd.R_append (Kd.int .u8) (w0 := w) w.heap.size rfl (.tmp 69) (.tmp 74) 54 5 (.int .u8 0) 1 rfl Try.underlying54 info5 rfl (by decide) (by omega) vt t (c) [.int .u8 (c)] (fun _ => True) (fun _ => False) rfl rfl ?aP (fun _ hk => hk.elim) (fun _ _ => trivial) HT.out HB.out HB.out.size ?aL ?_; (case aP => exact rfl); (case aL => (have := HTL.out; omega)); intro v5 w5 ho5 hb5 hg5 hat5; have HT5 := Aside0.mk ho5; have HB5 := Aside0.mk hb5; have HO5 := Aside0.mk (Kd.R_grown2 HO.out rfl hg5 HNE.out); clear ho5 hb5 hg5 hat5))
        (go_step3; exact ⟨⟨by decide, _, _, (i + 1), ⟨rfl, rfl, rfl, rfl, rfl, by go_num⟩, ⟨by omega, HB5.out, L, _, HO5.out, HT5.out, by have := HL.out; omega, by rw [List.length_append, List.length_singleton]; have := HTL.out; omega, (show partsOf (bytesOf a0) = (textOn (t ++ [c]) ((bytesOf a0).drop (i + 1))).map (L ++ ·) by rw [HS.out, HD.out, HC.out, textOn_plain t c _ HZ.out])⟩⟩, by simp [decM, intOf]; first | done | omega⟩)
    · have hi : i = a0.size := by omega
      subst hi
      have hq : ((a0.size : Int) == (a0.size : Int)) = true := beq_self_eq_true _
      have HN : Aside0 (partsOf (bytesOf a0) = none) := ⟨by rw [HS.out, bytes_drop_all, textOn_nil]; rfl⟩
      go_wp2
      (go_step3; exact ⟨⟨by decide, _, _, a0.size, ⟨rfl, rfl, rfl, rfl, rfl, by go_num⟩, ⟨by omega, HB.out, L, t, HO.out, HT.out, HL.out, HTL.out, HN.out⟩⟩, by simp [decM, intOf]; first | done | omega⟩)
  case p2 =>
    rintro a w' ⟨-, vo, vt, i, hF, hJ⟩
    obtain ⟨u, rfl⟩ := hF.told
    clear hF
    unfold decF
    obtain ⟨L, t, ho, ht, hL, ht2, hS⟩ := hJ.says
    have hle := hJ.le
    have HB := Aside0.mk hJ.below
    have HO := Aside0.mk ho
    have HT := Aside0.mk ht
    have HL := Aside0.mk hL
    have HTL := Aside0.mk ht2
    have HS : Aside0 (1 ≤ i ∧ (bt a0 ((i - 1 : Nat) : Int) = 3 ∨ bt a0 ((i - 1 : Nat) : Int) = 4) ∧ partsOf (bytesOf a0) = (partsOf ((bytesOf a0).drop (i - 1))).map (L ++ ·)) := ⟨hS⟩
    have h1i := HS.out.1
    have HDr := Aside0.mk (bytes_drop a0 (i - 1) (by omega))
    have HI1 : Aside0 (i - 1 + 1 = i) := ⟨by omega⟩
    clear hJ ho ht hL ht2 hS
    by_cases h8 : a0.size < i + 8
    · have hq : decide ((a0.size : Int) - (i : Int) < 8) = true := decide_eq_true (by omega)
      have HN : Aside0 (partsOf (bytesOf a0) = none) := ⟨by
        have hl : (bytesOf a0).length = a0.size := bytesOf_length a0
        rw [HS.out.2.2, HDr.out, partsOf_cons]
        rcases HS.out.2.1 with e | e
        · rw [e, if_neg (by decide), if_pos rfl, if_pos (by rw [List.length_drop, hl]; omega)]; rfl
        · rw [e, if_neg (by decide), if_neg (by decide), if_pos rfl, if_pos (by rw [List.length_drop, hl]; omega)]; rfl⟩
      clear h8
      go_wp2
      (go_step3; exact ⟨⟨by decide, _, _, i, ⟨rfl, rfl, rfl, rfl, rfl, by go_num⟩, ⟨hle, HB.out, L, t, HO.out, HT.out, HL.out, HTL.out, HN.out⟩⟩, by simp [decM, intOf]; first | done | omega⟩)
    have hq : decide ((a0.size : Int) - (i : Int) < 8) = false := decide_eq_false (by omega)
    have h8' : i + 8 ≤ a0.size := by omega
    have h8i : (i : Int) + 8 ≤ (a0.size : Int) := by omega
    have hlt : i - 1 < a0.size := by omega
    have HL8 : Aside0 (¬ ((bytesOf a0).drop (i - 1 + 1)).length < 8) := ⟨by rw [List.length_drop, bytesOf_length]; omega⟩
    have HX8 : Aside0 (((bytesOf a0).drop (i - 1 + 1)).take 8 = bytesOf (a0.extract i (i + 8))) := ⟨by rw [HI1.out]; exact (bytes_sub a0 i h8').symm⟩
    have HSx : Aside0 ((a0.extract i (i + 8)).size ≤ 9223372036854775807) := ⟨by rw [ByteArray.size_extract]; omega⟩
    have HR3 : Aside0 (tuple_read.f (a0.extract i (i + 8)) 0 = some (numOf 0 (bytesOf (a0.extract i (i + 8))))) := ⟨by unfold tuple_read.f numOf; rw [if_pos HSx.out]⟩
    have HR4 : Aside0 (tuple_read.f (a0.extract i (i + 8)) 255 = some (numOf 255 (bytesOf (a0.extract i (i + 8))))) := ⟨by unfold tuple_read.f numOf; rw [if_pos HSx.out]⟩
    obtain ⟨c, hc⟩ : ∃ c, bt a0 ((i - 1 : Nat) : Int) = c := ⟨_, rfl⟩
    have hbi : ((a0[i - 1]'hlt).toNat : Int) = c := by rw [← hc]; exact bt_at a0 ((i - 1 : Nat) : Int) hlt
    have hsl : ∀ W : World, (Instr.slice 9 (.string a0) (some (.int .i64 (i : Int))) (some (.int .i64 ((i : Int) + 8))) none).run Try.prog W = .ok (.string (a0.extract i (i + 8))) W := fun W => by
      rw [run_slice_string (w := W) 9 a0 .i64 .i64 (i : Int) ((i : Int) + 8) Try.underlying9 (by omega) (by omega) h8i, show ((i : Int) + 8).toNat = i + 8 by omega, Int.toNat_natCast]
    have hor : c = 3 ∨ c = 4 := by rw [← hc]; exact HS.out.2.1
    clear h8
    rcases hor with h3 | h3
    ·
      subst h3
      have q3 : ((3 : Int) == 3) = true := rfl
      have HC := Aside0.mk hc
      clear hc
      go_wp2_with (first | (go_at_call 35; refine (tuple_read.calls (a0.extract i (i + 8)) 0 _ _ HR3.out).mono ?_; rintro e w5 ⟨rfl, hb5⟩; have HO5 := Aside0.mk (Kd.R_below HO.out hb5); have HT5 := Aside0.mk (Kd.R_below HT.out hb5); have HB5 := Aside0.mk (below_step HB.out hb5); clear hb5) | ((with_reducible refine gate_builtin (b := .append) (xs := #[.tmp 36, .tmp 44]) rfl ?_); at_builtin; refine Kd.R_append k46 (w0 := w) w.heap.size rfl (.tmp 36) (.tmp 44) 22 46 (.agg #[(.int .i64 0), (.int .i64 0), (.string ⟨#[]⟩)]) 32 rfl Try.underlying22 info46 rfl (by decide) (by omega) vo L (⟨2, numOf 0 (bytesOf (a0.extract i (i + 8))), ⟨#[]⟩⟩ : S46) [.int .i64 2, .int .i64 (numOf 0 (bytesOf (a0.extract i (i + 8)))), .string ⟨#[]⟩] (fun _ => True) (fun _ => False) rfl (by first | (go_simp; done) | (go_simp; rfl)) ?aP (fun _ hk => hk.elim) (fun _ _ => trivial) HO5.out HB5.out HB5.out.size ?aL ?_; (case aP => exact k46_mkM _ _ _ (⟨2, numOf 0 (bytesOf (a0.extract i (i + 8))), ⟨#[]⟩⟩ : S46)); (case aL => (have := HL.out; omega)); intro v6 w6 ho6 hb6 hg6 hat6; have HO6 := Aside0.mk ho6; have HB6 := Aside0.mk hb6; have HT6 := Aside0.mk (Kd.R_grown2 HT5.out rfl hg6 (row_ne2 HO5.out HT5.out)); clear ho6 hb6 hg6 hat6))
      (go_step3; exact ⟨⟨by decide, _, _, (i + 8), ⟨rfl, rfl, rfl, rfl, rfl, by go_num⟩, ⟨by omega, HB6.out, _, t, HO6.out, HT6.out, by rw [List.length_append, List.length_singleton]; have := HL.out; omega, by have := HTL.out; omega, (show partsOf (bytesOf a0) = (partsOf ((bytesOf a0).drop (i + 8))).map ((L ++ [(⟨2, numOf 0 (bytesOf (a0.extract i (i + 8))), ⟨#[]⟩⟩ : S46)]) ++ ·) by rw [HS.out.2.2, HDr.out, HC.out, partsOf_cons, if_neg (by decide), if_pos rfl, if_neg HL8.out, List.drop_drop, HX8.out, Option.map_map, show i - 1 + 1 + 8 = i + 8 by omega]; congr 1; funext p; simp)⟩⟩, by simp [decM, intOf]; first | done | omega⟩)
    ·
      subst h3
      have q3 : ((4 : Int) == 3) = false := rfl
      have HC := Aside0.mk hc
      clear hc
      go_wp2_with (first | (go_at_call 35; refine (tuple_read.calls (a0.extract i (i + 8)) 255 _ _ HR4.out).mono ?_; rintro e w5 ⟨rfl, hb5⟩; have HO5 := Aside0.mk (Kd.R_below HO.out hb5); have HT5 := Aside0.mk (Kd.R_below HT.out hb5); have HB5 := Aside0.mk (below_step HB.out hb5); clear hb5) | ((with_reducible refine gate_builtin (b := .append) (xs := #[.tmp 46, .tmp 54]) rfl ?_); at_builtin; refine Kd.R_append k46 (w0 := w) w.heap.size rfl (.tmp 46) (.tmp 54) 22 46 (.agg #[(.int .i64 0), (.int .i64 0), (.string ⟨#[]⟩)]) 32 rfl Try.underlying22 info46 rfl (by decide) (by omega) vo L (⟨3, numOf 255 (bytesOf (a0.extract i (i + 8))), ⟨#[]⟩⟩ : S46) [.int .i64 3, .int .i64 (numOf 255 (bytesOf (a0.extract i (i + 8)))), .string ⟨#[]⟩] (fun _ => True) (fun _ => False) rfl (by first | (go_simp; done) | (go_simp; rfl)) ?aP (fun _ hk => hk.elim) (fun _ _ => trivial) HO5.out HB5.out HB5.out.size ?aL ?_; (case aP => exact k46_mkM _ _ _ (⟨3, numOf 255 (bytesOf (a0.extract i (i + 8))), ⟨#[]⟩⟩ : S46)); (case aL => (have := HL.out; omega)); intro v6 w6 ho6 hb6 hg6 hat6; have HO6 := Aside0.mk ho6; have HB6 := Aside0.mk hb6; have HT6 := Aside0.mk (Kd.R_grown2 HT5.out rfl hg6 (row_ne2 HO5.out HT5.out)); clear ho6 hb6 hg6 hat6))
      (go_step3; exact ⟨⟨by decide, _, _, (i + 8), ⟨rfl, rfl, rfl, rfl, rfl, by go_num⟩, ⟨by omega, HB6.out, _, t, HO6.out, HT6.out, by rw [List.length_append, List.length_singleton]; have := HL.out; omega, by have := HTL.out; omega, (show partsOf (bytesOf a0) = (partsOf ((bytesOf a0).drop (i + 8))).map ((L ++ [(⟨3, numOf 255 (bytesOf (a0.extract i (i + 8))), ⟨#[]⟩⟩ : S46)]) ++ ·) by rw [HS.out.2.2, HDr.out, HC.out, partsOf_cons, if_neg (by decide), if_neg (by decide), if_pos rfl, if_neg HL8.out, List.drop_drop, HX8.out, Option.map_map, show i - 1 + 1 + 8 = i + 8 by omega]; congr 1; funext p; simp)⟩⟩, by simp [decM, intOf]; first | done | omega⟩)
  case p3 =>
    rintro a w' ⟨-, vo, vt, i, hF, hJ⟩
    obtain ⟨u, rfl⟩ := hF.told
    clear hF
    unfold decF
    obtain ⟨L, t, ho, ht, hL, ht2, hS⟩ := hJ.says
    have hle := hJ.le
    have HB := Aside0.mk hJ.below
    have HO := Aside0.mk ho
    have HT := Aside0.mk ht
    have HL := Aside0.mk hL
    have HTL := Aside0.mk ht2
    have HN : Aside0 (partsOf (bytesOf a0) = none) := ⟨hS⟩
    clear hJ ho ht hL ht2 hS
    go_wp2
    simp only [jumps]
    go_ret2
    exact DecPost.bad HN.out rfl HB.out

set_option maxHeartbeats 1600000 in
set_option maxRecDepth 100000 in
theorem dec_big (a0 : ByteArray) (w : World) (hs : ¬ a0.size ≤ 128) :
    Calls Try.prog 20 #[.string a0] w fun e w' => e = .returned (.tuple #[.slice none 0 0, .int .i64 5]) ∧ Below w.heap.size w w' := by
  have hs1 : decide (128 < (a0.size : Int)) = true := decide_eq_true (by omega)
  go_enter Try.func20, Try.ntmps20
  go_wp2
  refine wp_scope4 (fun _ _ _ => False) (fun _ _ _ => 0) rfl rfl rfl rfl (fun l a w h => h.elim) ?first (fun _ _ h => h.elim) (fun _ _ h => h.elim) (fun _ _ h => h.elim) (fun _ _ h => h.elim)
  go_wp2
  simp only [jumps]
  go_ret2
  exact ⟨rfl, Below.refl _ _⟩
def tuple_Decode.f (k : Nat) (a0 : ByteArray) : Option ((List (S46)) × Int) :=
  if a0.size ≤ 128 then (match partsOf (bytesOf a0) with | none => some ([], 4) | some L => some (L, 0)) else some ([], 5)
theorem tuple_Decode.mono : ∀ a0 k, LeO (tuple_Decode.f k a0) (tuple_Decode.f (k + 1) a0) := fun _ _ => LeO.refl _
theorem tuple_Decode.calls (k : Nat) (a0 : ByteArray) (r1 : List (S46)) (r2 : Int) (w : World) (h : tuple_Decode.f k a0 = some (r1, r2)) :
    Calls Try.prog 20 #[.string a0] w fun e w' => ∃ v0_ : Value, e = .returned (.tuple #[v0_, .int .i64 r2]) ∧ Kd.R k46 46 w' w.heap.size (fun _ => True) v0_ r1 ∧ Below w.heap.size w w' := by
  unfold tuple_Decode.f at h
  by_cases hs : a0.size ≤ 128
  · rw [if_pos hs] at h
    refine (dec_calls a0 w hs).mono ?_
    rintro e w' ⟨hb, v, he, hr⟩
    cases hq : partsOf (bytesOf a0) with
    | none =>
      rw [hq] at h he hr
      simp only [Option.some.injEq, Prod.mk.injEq] at h
      obtain ⟨rfl, rfl⟩ := h
      exact ⟨v, he, hr, hb⟩
    | some L =>
      rw [hq] at h he hr
      simp only [Option.some.injEq, Prod.mk.injEq] at h
      obtain ⟨rfl, rfl⟩ := h
      exact ⟨v, he, hr, hb⟩
  · rw [if_neg hs] at h
    simp only [Option.some.injEq, Prod.mk.injEq] at h
    obtain ⟨rfl, rfl⟩ := h
    refine (dec_big a0 w hs).mono ?_
    rintro e w' ⟨he, hb⟩
    exact ⟨_, he, Kd.R_nil _ _ _ _ _, hb⟩

/-! ### ambryref01_Number: function 49 -/
def ambryref01_Number.l0 : Nat → ByteArray → Int → Int → Int → Int → Option (Int)
  | 0, _, _, _, _, _ => none
  | k + 1, x0, x1, x2, x7, x8 => if x8 < x2 then (if 0 ≤ (wrap64 (x1 + x8)) then (if (wrap64 (x1 + x8)) < (x0.size : Int) then (ambryref01_Number.l0 k x0 x1 x2 (Go.bits .or .u64 (IntKind.u64.wrap (x7 * 256)) (IntKind.u64.wrap (bt x0 (wrap64 (x1 + x8))))) (wrap64 (x8 + 1))) else (none)) else (none)) else (some (wrap64 (x7)))
def ambryref01_Number.f (k : Nat) (a0 : ByteArray) (a1 : Int) (a2 : Int) : Option (Int) := ambryref01_Number.l0 k a0 a1 a2 0 0
theorem ambryref01_Number.mono_l : ∀ k, (∀ y0 y1 y2 y3 y4, LeO (ambryref01_Number.l0 k y0 y1 y2 y3 y4) (ambryref01_Number.l0 (k + 1) y0 y1 y2 y3 y4))
  | 0 => fun _ _ _ _ _ r h => by simp [ambryref01_Number.l0] at h
  | k + 1 => by
    have ih0 := ambryref01_Number.mono_l k
    · intro y0 y1 y2 y3 y4
      unfold ambryref01_Number.l0
      repeat' first
      | (with_reducible exact ih0 _ _ _ _ _)
      | (with_reducible exact LeO.refl _)
      | (with_reducible exact LeO.none _)
      | (with_reducible refine LeO.ite ?_ ?_)
      | (with_reducible refine LeO.bind ?_ (fun _ => ?_))
      | exact ih0 _ _ _ _ _
      | exact LeO.none _
      | refine LeO.ite ?_ ?_
      | refine LeO.bind ?_ (fun _ => ?_)
theorem ambryref01_Number.mono : ∀ a0 a1 a2 k, LeO (ambryref01_Number.f k a0 a1 a2) (ambryref01_Number.f (k + 1) a0 a1 a2) := by
  intro a0 a1 a2 k
  have ih0 := ambryref01_Number.mono_l k
  unfold ambryref01_Number.f
  repeat' first
      | (with_reducible exact ih0 _ _ _ _ _)
      | (with_reducible exact LeO.refl _)
      | (with_reducible exact LeO.none _)
      | (with_reducible refine LeO.ite ?_ ?_)
      | (with_reducible refine LeO.bind ?_ (fun _ => ?_))
      | exact ih0 _ _ _ _ _
      | exact LeO.none _
      | refine LeO.ite ?_ ?_
      | refine LeO.bind ?_ (fun _ => ?_)
set_option maxHeartbeats 8000000 in
set_option maxRecDepth 100000 in
theorem ambryref01_Number.calls (k : Nat) (a0 : ByteArray) (a1 : Int) (a2 : Int) (r : Int) (w : World) (h : ambryref01_Number.f k a0 a1 a2 = some r) :
    Calls Try.prog 49 #[.string a0, .int .i64 a1, .int .i64 a2] w fun e w' => e = .returned (.int .i64 r) ∧ Drawn0 w w' := by
  have H : (ambryref01_Number.l0 k a0 a1 a2 0 0) = some r := h
  clear h
  have H' := Aside0.mk H
  clear H
  go_enter Try.func49, Try.ntmps49
  go_wp2
  go_loopg [7, 8] k (fun kq v7 v8 w' => ∃ (x7_1 : Int) (x8_1 : Int), v7 = .int .u64 x7_1 ∧ v8 = .int .i64 x8_1 ∧ Aside0 (ambryref01_Number.l0 kq a0 a1 a2 x7_1 x8_1 = some r) ∧ Aside0 (kq ≤ k) ∧ Drawn0 w w')
  case atStart => exact ⟨(0), (0), (by first | rfl | (simp; done) | (simp [*]; done)), (by first | rfl | (simp; done) | (simp [*]; done)), H', ⟨Nat.le_refl _⟩, by repeat (first | exact Drawn0.refl _ | apply Drawn0.step)⟩
  case round =>
    clear H'
    try clear p2
    obtain ⟨x7_1, x8_1, rfl, rfl, HA, HK1, ⟨m1, rfl⟩⟩ := hrel
    cases gk with
    | zero => exact absurd HA.out (by simp [ambryref01_Number.l0])
    | succ k1 =>
      have H := HA.out
      clear HA
      simp only [ambryref01_Number.l0] at H
      by_cases c4 : x8_1 < a2
      · rw [if_pos c4] at H
        have c4b0 : decide (x8_1 < a2) = true := decide_eq_true c4
        clear c4
        obtain ⟨ji5, hji5⟩ : ∃ j_ : Int, (wrap64 (a1 + x8_1)) = j_ := ⟨_, rfl⟩
        replace H : (if 0 ≤ (ji5) then (if (ji5) < (a0.size : Int) then (ambryref01_Number.l0 k1 a0 a1 a2 (Go.bits .or .u64 (IntKind.u64.wrap (x7_1 * 256)) (IntKind.u64.wrap (bt a0 (ji5)))) (wrap64 (x8_1 + 1))) else (none)) else (none)) = some r := by first | (rw [hji5] at H; exact H) | (simp only [hji5] at H ⊢; exact H)
        have hji5w : (IntKind.i64.wrap (a1 + x8_1)) = ji5 := (i64_w _).trans hji5
        by_cases c6 : 0 ≤ (ji5)
        · rw [if_pos c6] at H
          have c6b0 : decide (0 ≤ (ji5)) = true := decide_eq_true c6
          clear c6
          by_cases c7 : (ji5) < (a0.size : Int)
          · rw [if_pos c7] at H
            have c7b0 : decide ((ji5) < (a0.size : Int)) = true := decide_eq_true c7
            clear c7
            have H' := Aside0.mk H
            clear H
            have p8 : 0 ≤ ((ji5) : Int) := of_decide_eq_true (by first | (with_reducible assumption) | assumption)
            have q8 : (ji5) < (a0.size : Int) := of_decide_eq_true (by first | (with_reducible assumption) | assumption)
            have hx8 := bt_at a0 (ji5)
            replace p8 := eq_true p8
            replace q8 := eq_true q8
            go_wp2
            go_roundg k1
            case measure => have := HK1.out; omega
            case rel => exact ⟨(Go.bits .or .u64 (IntKind.u64.wrap (x7_1 * 256)) (IntKind.u64.wrap (bt a0 (ji5)))), (wrap64 (x8_1 + 1)), (by first | rfl | (simp; done) | (simp only [← hji5] <;> (first | rfl | simp)) | (simp [*]; done)), (by first | rfl | (simp; done) | (simp [*]; done)), H', ⟨by have := HK1.out; omega⟩, by repeat (first | exact Drawn0.refl _ | apply Drawn0.step)⟩
          · rw [if_neg c7] at H
            exact absurd H (by simp)
        · rw [if_neg c6] at H
          exact absurd H (by simp)
      · rw [if_neg c4] at H
        have c4b0 : decide (x8_1 < a2) = false := decide_eq_false c4
        clear c4
        obtain rfl := Option.some.inj H
        go_wp2
        go_ret
        exact ⟨by first | rfl | (simp; done) | (simp [*]; done), by repeat (first | exact Drawn0.refl _ | apply Drawn0.step)⟩

/-! ### ambryref02_first: function 36, by hand -/
set_option maxHeartbeats 1600000 in
set_option maxRecDepth 100000 in
theorem first_short3 (a0 : ByteArray) (w : World) (hs : a0.size ≤ 140737488355328) (hz : 0 < a0.size) (hc : bt a0 0 = 3) (hn : a0.size < 9) : Calls Try.prog 36 #[.string a0] w fun e w' => e = .returned (.tuple #[.agg #[.int .i64 (0), .int .i64 (0), .string (⟨#[]⟩ : ByteArray)], .int .i64 (0)]) ∧ Below w.heap.size w w' := by
  have hb0 : ((a0[0]'hz).toNat : Int) = 3 := by rw [← hc]; exact bt_at a0 0 hz
  have hn9 : decide ((a0.size : Int) < 9) = true := decide_eq_true (by omega)
  clear hn hc
  go_enter Try.func36, Try.ntmps36
  go_wp2_with (first | ((with_reducible refine gate_dst (N := 2) rfl ?_); refine box_event ?hg (N := 2) ?hd (cs := #[.int .i64 0, .int .i64 0, .string (⟨#[]⟩ : ByteArray)]) (t := 46) ?hr ?_; (case hd => rfl); (case hg => rfl); (case hr => first | (go_simp; done) | (go_simp; rfl)); intro g1 hg w1 hbox hb; have HB1 := Aside0.mk hb; have HX1 := Aside0.mk hbox; have HG1 := Aside0.mk hg; clear hb hbox hg; have hcz0 : w1.cell? ⟨g1, 0, none⟩ = some (.int .i64 0) := (blk_cell HX1.out 0).trans rfl; have hcz1 : w1.cell? ⟨g1, 1, none⟩ = some (.int .i64 0) := (blk_cell HX1.out 1).trans rfl; have hcz2 : w1.cell? ⟨g1, 2, none⟩ = some (.string (⟨#[]⟩ : ByteArray)) := (blk_cell HX1.out 2).trans rfl; have hfz0 := blk_frozen HX1.out 0; have hfz1 := blk_frozen HX1.out 1; have hfz2 := blk_frozen HX1.out 2))
  refine bodyPost_ret (results_ct rfl _ _ g1 46 #[.int .i64 (0), .int .i64 (0), .string (⟨#[]⟩ : ByteArray)] (0, 0) _ rfl (by (with_reducible repeat (first | refine blk_drewN ?_ _ | refine blk_drew ?_ | refine blk_alloc ?_ _)); refine blk_put (cs := #[.int .i64 (0), .int .i64 (0), .string (⟨#[]⟩ : ByteArray)]) ?_ 2 _ rfl; (with_reducible repeat (first | refine blk_drewN ?_ _ | refine blk_drew ?_ | refine blk_alloc ?_ _)); refine blk_put (cs := #[.int .i64 (0), .int .i64 (0), .string (⟨#[]⟩ : ByteArray)]) ?_ 1 _ rfl; (with_reducible repeat (first | refine blk_drewN ?_ _ | refine blk_drew ?_ | refine blk_alloc ?_ _)); refine blk_put (cs := #[.int .i64 (0), .int .i64 (0), .string (⟨#[]⟩ : ByteArray)]) ?_ 0 _ rfl; (with_reducible repeat (first | refine blk_drewN ?_ _ | refine blk_drew ?_ | refine blk_alloc ?_ _)); exact HX1.out) Try.underlying46 rfl (by kernel_rfl)) rfl ?_
  exact ⟨by first | rfl | (simp; done), by repeat (first | (with_reducible first | exact HB1.out | apply below_alloc | apply pw_below_drewN | apply below_drew1 | refine below_set ?_ (by rw [HG1.out]; exact Nat.le_refl _)) | exact HB1.out)⟩
set_option maxHeartbeats 1600000 in
set_option maxRecDepth 100000 in
theorem first_short4 (a0 : ByteArray) (w : World) (hs : a0.size ≤ 140737488355328) (hz : 0 < a0.size) (hc : bt a0 0 = 4) (hn : a0.size < 9) : Calls Try.prog 36 #[.string a0] w fun e w' => e = .returned (.tuple #[.agg #[.int .i64 (0), .int .i64 (0), .string (⟨#[]⟩ : ByteArray)], .int .i64 (0)]) ∧ Below w.heap.size w w' := by
  have hb0 : ((a0[0]'hz).toNat : Int) = 4 := by rw [← hc]; exact bt_at a0 0 hz
  have hn9 : decide ((a0.size : Int) < 9) = true := decide_eq_true (by omega)
  clear hn hc
  go_enter Try.func36, Try.ntmps36
  go_wp2_with (first | ((with_reducible refine gate_dst (N := 2) rfl ?_); refine box_event ?hg (N := 2) ?hd (cs := #[.int .i64 0, .int .i64 0, .string (⟨#[]⟩ : ByteArray)]) (t := 46) ?hr ?_; (case hd => rfl); (case hg => rfl); (case hr => first | (go_simp; done) | (go_simp; rfl)); intro g1 hg w1 hbox hb; have HB1 := Aside0.mk hb; have HX1 := Aside0.mk hbox; have HG1 := Aside0.mk hg; clear hb hbox hg; have hcz0 : w1.cell? ⟨g1, 0, none⟩ = some (.int .i64 0) := (blk_cell HX1.out 0).trans rfl; have hcz1 : w1.cell? ⟨g1, 1, none⟩ = some (.int .i64 0) := (blk_cell HX1.out 1).trans rfl; have hcz2 : w1.cell? ⟨g1, 2, none⟩ = some (.string (⟨#[]⟩ : ByteArray)) := (blk_cell HX1.out 2).trans rfl; have hfz0 := blk_frozen HX1.out 0; have hfz1 := blk_frozen HX1.out 1; have hfz2 := blk_frozen HX1.out 2))
  refine bodyPost_ret (results_ct rfl _ _ g1 46 #[.int .i64 (0), .int .i64 (0), .string (⟨#[]⟩ : ByteArray)] (0, 0) _ rfl (by (with_reducible repeat (first | refine blk_drewN ?_ _ | refine blk_drew ?_ | refine blk_alloc ?_ _)); refine blk_put (cs := #[.int .i64 (0), .int .i64 (0), .string (⟨#[]⟩ : ByteArray)]) ?_ 2 _ rfl; (with_reducible repeat (first | refine blk_drewN ?_ _ | refine blk_drew ?_ | refine blk_alloc ?_ _)); refine blk_put (cs := #[.int .i64 (0), .int .i64 (0), .string (⟨#[]⟩ : ByteArray)]) ?_ 1 _ rfl; (with_reducible repeat (first | refine blk_drewN ?_ _ | refine blk_drew ?_ | refine blk_alloc ?_ _)); refine blk_put (cs := #[.int .i64 (0), .int .i64 (0), .string (⟨#[]⟩ : ByteArray)]) ?_ 0 _ rfl; (with_reducible repeat (first | refine blk_drewN ?_ _ | refine blk_drew ?_ | refine blk_alloc ?_ _)); exact HX1.out) Try.underlying46 rfl (by kernel_rfl)) rfl ?_
  exact ⟨by first | rfl | (simp; done), by repeat (first | (with_reducible first | exact HB1.out | apply below_alloc | apply pw_below_drewN | apply below_drew1 | refine below_set ?_ (by rw [HG1.out]; exact Nat.le_refl _)) | exact HB1.out)⟩
set_option maxHeartbeats 1600000 in
set_option maxRecDepth 100000 in
theorem first_other (a0 : ByteArray) (w : World) (hs : a0.size ≤ 140737488355328) (hz : 0 < a0.size) (h2 : (bt a0 0 == 2) = false) (h3 : (bt a0 0 == 3) = false) (h4 : (bt a0 0 == 4) = false) (h2n : (bt a0 0 != 2) = true) : Calls Try.prog 36 #[.string a0] w fun e w' => e = .returned (.tuple #[.agg #[.int .i64 (0), .int .i64 (0), .string (⟨#[]⟩ : ByteArray)], .int .i64 (0)]) ∧ Below w.heap.size w w' := by
  obtain ⟨c, hc⟩ : ∃ c, bt a0 0 = c := ⟨_, rfl⟩
  have hb0 : ((a0[0]'hz).toNat : Int) = c := by rw [← hc]; exact bt_at a0 0 hz
  rw [hc] at h2 h3 h4 h2n
  clear hc
  go_enter Try.func36, Try.ntmps36
  go_wp2_with (first | ((with_reducible refine gate_dst (N := 2) rfl ?_); refine box_event ?hg (N := 2) ?hd (cs := #[.int .i64 0, .int .i64 0, .string (⟨#[]⟩ : ByteArray)]) (t := 46) ?hr ?_; (case hd => rfl); (case hg => rfl); (case hr => first | (go_simp; done) | (go_simp; rfl)); intro g1 hg w1 hbox hb; have HB1 := Aside0.mk hb; have HX1 := Aside0.mk hbox; have HG1 := Aside0.mk hg; clear hb hbox hg; have hcz0 : w1.cell? ⟨g1, 0, none⟩ = some (.int .i64 0) := (blk_cell HX1.out 0).trans rfl; have hcz1 : w1.cell? ⟨g1, 1, none⟩ = some (.int .i64 0) := (blk_cell HX1.out 1).trans rfl; have hcz2 : w1.cell? ⟨g1, 2, none⟩ = some (.string (⟨#[]⟩ : ByteArray)) := (blk_cell HX1.out 2).trans rfl; have hfz0 := blk_frozen HX1.out 0; have hfz1 := blk_frozen HX1.out 1; have hfz2 := blk_frozen HX1.out 2))
  refine bodyPost_ret (results_ct rfl _ _ g1 46 #[.int .i64 (0), .int .i64 (0), .string (⟨#[]⟩ : ByteArray)] (0, 0) _ rfl (by (with_reducible repeat (first | refine blk_drewN ?_ _ | refine blk_drew ?_ | refine blk_alloc ?_ _)); refine blk_put (cs := #[.int .i64 (0), .int .i64 (0), .string (⟨#[]⟩ : ByteArray)]) ?_ 2 _ rfl; (with_reducible repeat (first | refine blk_drewN ?_ _ | refine blk_drew ?_ | refine blk_alloc ?_ _)); refine blk_put (cs := #[.int .i64 (0), .int .i64 (0), .string (⟨#[]⟩ : ByteArray)]) ?_ 1 _ rfl; (with_reducible repeat (first | refine blk_drewN ?_ _ | refine blk_drew ?_ | refine blk_alloc ?_ _)); refine blk_put (cs := #[.int .i64 (0), .int .i64 (0), .string (⟨#[]⟩ : ByteArray)]) ?_ 0 _ rfl; (with_reducible repeat (first | refine blk_drewN ?_ _ | refine blk_drew ?_ | refine blk_alloc ?_ _)); exact HX1.out) Try.underlying46 rfl (by kernel_rfl)) rfl ?_
  exact ⟨by first | rfl | (simp; done), by repeat (first | (with_reducible first | exact HB1.out | apply below_alloc | apply pw_below_drewN | apply below_drew1 | refine below_set ?_ (by rw [HG1.out]; exact Nat.le_refl _)) | exact HB1.out)⟩
def FirstText (a0 : ByteArray) (w : World) (e : Ending) (w' : World) : Prop := Below w.heap.size w w' ∧ e = (match scanT ((bytesOf a0).drop 1) with
  | none => .returned (.tuple #[.agg #[.int .i64 0, .int .i64 0, .string ⟨#[]⟩], .int .i64 0])
  | some p => .returned (.tuple #[.agg #[.int .i64 1, .int .i64 0, .string (strOfNums p.1)], .int .i64 ((p.2 : Int) + 1)]))
theorem FirstText.no {a0 : ByteArray} {w w' : World} {e : Ending} (h : scanT ((bytesOf a0).drop 1) = none) (he : e = .returned (.tuple #[.agg #[.int .i64 0, .int .i64 0, .string ⟨#[]⟩], .int .i64 0])) (hb : Below w.heap.size w w') : FirstText a0 w e w' := ⟨hb, by rw [h]; exact he⟩
theorem FirstText.yes {a0 : ByteArray} {w w' : World} {e : Ending} {t : List Int} {n : Nat} (h : scanT ((bytesOf a0).drop 1) = some (t, n)) (he : e = .returned (.tuple #[.agg #[.int .i64 1, .int .i64 0, .string (strOfNums t)], .int .i64 ((n : Int) + 1)])) (hb : Below w.heap.size w w') : FirstText a0 w e w' := ⟨hb, by rw [h]; exact he⟩
set_option maxHeartbeats 1600000 in
set_option maxRecDepth 100000 in
theorem first_text (a0 : ByteArray) (w : World) (hs : a0.size ≤ 140737488355328) (hz : 0 < a0.size) (hc : bt a0 0 = 2) : Calls Try.prog 36 #[.string a0] w fun e w' => FirstText a0 w e w' := by
  have hb0 : ((a0[0]'hz).toNat : Int) = 2 := by rw [← hc]; exact bt_at a0 0 hz
  have hss : (a0.size : Int) ≤ 140737488355328 := by omega
  have hsz1 : 1 ≤ a0.size := hz
  clear hc
  go_enter Try.func36, Try.ntmps36
  go_wp2_with (first | ((with_reducible refine gate_dst (N := 2) rfl ?_); refine box_event ?hg (N := 2) ?hd (cs := #[.int .i64 0, .int .i64 0, .string (⟨#[]⟩ : ByteArray)]) (t := 46) ?hr ?_; (case hd => rfl); (case hg => rfl); (case hr => first | (go_simp; done) | (go_simp; rfl)); intro g1 hg w1 hbox hb; have HB1 := Aside0.mk hb; have HX1 := Aside0.mk hbox; have HG1 := Aside0.mk hg; clear hb hbox hg; have hcz0 : w1.cell? ⟨g1, 0, none⟩ = some (.int .i64 0) := (blk_cell HX1.out 0).trans rfl; have hcz1 : w1.cell? ⟨g1, 1, none⟩ = some (.int .i64 0) := (blk_cell HX1.out 1).trans rfl; have hcz2 : w1.cell? ⟨g1, 2, none⟩ = some (.string (⟨#[]⟩ : ByteArray)) := (blk_cell HX1.out 2).trans rfl; have hfz0 := blk_frozen HX1.out 0; have hfz1 := blk_frozen HX1.out 1; have hfz2 := blk_frozen HX1.out 2))
  have HO1 : Aside0 (Kd.R (Kd.int .u8) 5 w1 w.heap.size (fun k_ => k_ ≠ g1) (.slice none 0 0) []) := ⟨Kd.R_nil _ _ _ _ _⟩
  clear hcz0 hcz1 hcz2 hfz0 hfz1 hfz2
  go_loopw [7, 8] (fun vt vi wr => ∃ (i : Nat) (t : List Int), 1 ≤ i ∧ i ≤ a0.size ∧ vi = .int .i64 i ∧ Aside0 (Kd.R (Kd.int .u8) 5 wr w.heap.size (fun k_ => k_ ≠ g1) vt t) ∧ Aside0 (ScanAt a0 i t) ∧ Aside0 (t.length ≤ i) ∧ Aside0 (wr.heap[g1]? = some (.cells #[.int .i64 0, .int .i64 0, .string (⟨#[]⟩ : ByteArray)] 46 (0, 0))) ∧ Aside0 (Below w.heap.size w wr)) (fun _ vi _ => a0.size - (intOf vi).toNat)
  case atStart => exact ⟨1, [], Nat.le_refl _, hsz1, rfl, HO1, ⟨ScanAt.start a0⟩, ⟨by simp⟩, HX1, HB1⟩
  case round =>
    obtain ⟨i, t, h1i, hi, rfl, HO4, HS4, HL4, HX4, HB4⟩ := hrel
    have hcz0 : wr.cell? ⟨g1, 0, none⟩ = some (.int .i64 0) := (blk_cell HX4.out 0).trans rfl
    have hcz1 : wr.cell? ⟨g1, 1, none⟩ = some (.int .i64 0) := (blk_cell HX4.out 1).trans rfl
    have hcz2 : wr.cell? ⟨g1, 2, none⟩ = some (.string (⟨#[]⟩ : ByteArray)) := (blk_cell HX4.out 2).trans rfl
    have hfz0 := blk_frozen HX4.out 0
    have hfz1 := blk_frozen HX4.out 1
    have hfz2 := blk_frozen HX4.out 2
    by_cases hlt : i < a0.size
    · have hbi : ((a0[i]'hlt).toNat : Int) = bt a0 (i : Int) := bt_at a0 (i : Int) hlt
      have hbr := bt_range a0 (i : Int)
      have HFr : Aside0 (∀ k_, wr.heap.size ≤ k_ → k_ ≠ g1) := ⟨fun k_ hk e_ => by have := blk_lt HX4.out; omega⟩
      have HNe : Aside0 (some g1 ≠ u7.ownBlock) := ⟨fun e_ => HO4.out.1 _ e_.symm rfl⟩
      have HLl : Aside0 (t.length + 1 ≤ 140737488355328) := ⟨by have := HL4.out; omega⟩
      by_cases hc : bt a0 (i : Int) = 0
      · rw [hc] at hbi hbr
        have HZ := Aside0.mk hc
        clear hc hbr
        have he0 : ((0 : Int) != 0) = false := rfl
        by_cases hl : i + 1 = a0.size
        · have HE := Aside0.mk (HS4.out.last hl HZ.out)
          have hq : ((i : Int) + 1 == (a0.size : Int)) = true := beq_iff_eq.2 (by omega)
          have HI := Aside0.mk hl
          clear hl
          go_wp2
          refine bodyPost_ret (results_ct rfl _ _ g1 46 #[.int .i64 (0), .int .i64 (0), .string (⟨#[]⟩ : ByteArray)] (0, 0) _ rfl (by (with_reducible repeat (first | refine blk_drewN ?_ _ | refine blk_drew ?_ | refine blk_alloc ?_ _)); refine blk_put (cs := #[.int .i64 (0), .int .i64 (0), .string (⟨#[]⟩ : ByteArray)]) ?_ 2 _ rfl; (with_reducible repeat (first | refine blk_drewN ?_ _ | refine blk_drew ?_ | refine blk_alloc ?_ _)); refine blk_put (cs := #[.int .i64 (0), .int .i64 (0), .string (⟨#[]⟩ : ByteArray)]) ?_ 1 _ rfl; (with_reducible repeat (first | refine blk_drewN ?_ _ | refine blk_drew ?_ | refine blk_alloc ?_ _)); refine blk_put (cs := #[.int .i64 (0), .int .i64 (0), .string (⟨#[]⟩ : ByteArray)]) ?_ 0 _ rfl; (with_reducible repeat (first | refine blk_drewN ?_ _ | refine blk_drew ?_ | refine blk_alloc ?_ _)); exact HX4.out) Try.underlying46 rfl (by kernel_rfl)) rfl ?_
          exact FirstText.no HE.out (by first | rfl | (simp; done)) (by repeat (first | (with_reducible first | exact HB4.out | apply below_alloc | apply pw_below_drewN | apply below_drew1 | refine below_set ?_ (by rw [HG1.out]; exact Nat.le_refl _)) | exact HB4.out))
        · have hl2 : i + 1 < a0.size := by omega
          have hq : ((i : Int) + 1 == (a0.size : Int)) = false := beq_eq_false_iff_ne.2 (by omega)
          obtain ⟨d, hd⟩ : ∃ d, bt a0 ((i + 1 : Nat) : Int) = d := ⟨_, rfl⟩
          have hbj : ((a0[i + 1]'hl2).toNat : Int) = d := by rw [← hd]; exact bt_at a0 ((i + 1 : Nat) : Int) hl2
          clear hl
          have hl3 : (i : Int) + 1 < (a0.size : Int) := by omega
          by_cases hd1 : d = 1
          · rw [hd1] at hbj hd
            have HE := Aside0.mk (HS4.out.stop hl2 HZ.out hd)
            clear hd hd1
            have hn1 : ((1 : Int) != 1) = false := rfl
            have hn2 : ((1 : Int) == 1) = true := rfl
            have hconv : (convert 54 9 u7).run Try.prog wr = .ok (.string (strOfNums t)) wr := own_string Try.underlying54 Try.underlying5 Try.underlying9 (Kd.own_of_R HO4.out)
            go_wp2_with (first | ((with_reducible refine gate_dst (N := 102) rfl ?_); refine Kd.event_run rfl (by go_simp; first | done | rfl) ?_))

            refine bodyPost_ret (results_ct rfl _ _ g1 46 #[.int .i64 (1), .int .i64 (0), .string (strOfNums t)] (0, 0) _ rfl (by (with_reducible repeat (first | refine blk_drewN ?_ _ | refine blk_drew ?_ | refine blk_alloc ?_ _)); refine blk_put (cs := #[.int .i64 (1), .int .i64 (0), .string (⟨#[]⟩ : ByteArray)]) ?_ 2 _ rfl; (with_reducible repeat (first | refine blk_drewN ?_ _ | refine blk_drew ?_ | refine blk_alloc ?_ _)); refine blk_put (cs := #[.int .i64 (1), .int .i64 (0), .string (⟨#[]⟩ : ByteArray)]) ?_ 1 _ rfl; (with_reducible repeat (first | refine blk_drewN ?_ _ | refine blk_drew ?_ | refine blk_alloc ?_ _)); refine blk_put (cs := #[.int .i64 (0), .int .i64 (0), .string (⟨#[]⟩ : ByteArray)]) ?_ 0 _ rfl; (with_reducible repeat (first | refine blk_drewN ?_ _ | refine blk_drew ?_ | refine blk_alloc ?_ _)); exact HX4.out) Try.underlying46 rfl (by kernel_rfl)) rfl ?_
            exact FirstText.yes HE.out (by first | rfl | (simp; done) | (simp; omega)) (by repeat (first | (with_reducible first | exact HB4.out | apply below_alloc | apply pw_below_drewN | apply below_drew1 | refine below_set ?_ (by rw [HG1.out]; exact Nat.le_refl _)) | exact HB4.out))
          · have hdn : (d != 1) = true := by simpa using hd1
            have hdq : (d == 1) = false := by simpa using hd1
            by_cases hd2 : d = 255
            · rw [hd2] at hbj hd
              have hm1 : ((255 : Int) != 1) = true := rfl
              have hm2 : ((255 : Int) != 255) = false := rfl
              have hm3 : ((255 : Int) == 1) = false := rfl
              have HE := Aside0.mk hd
              clear hd hd1 hd2 hdn hdq
              go_wp2_with (first | ((with_reducible refine gate_builtin (b := .append) (xs := #[.tmp 106, .tmp 107]) rfl ?_); at_builtin; refine Kd.R_append (Kd.int .u8) (w0 := w) w.heap.size rfl (.tmp 106) (.tmp 107) 54 5 (.int .u8 0) 1 rfl Try.underlying54 info5 rfl (by decide) (by omega) u7 (t) (0) [.int .u8 (0)] (fun k_ => k_ ≠ g1) (fun _ => False) rfl rfl ?aP (fun _ hk => hk.elim) ?aF ?aO ?aB ?aS ?aL ?_; (case aP => exact rfl); (case aB => exact HB4.out); (case aF => exact HFr.out); (case aO => exact HO4.out); (case aS => exact HB4.out.size); (case aL => (have := HLl.out; omega)); intro v5 w5 ho hb hg hat; have HO5 := Aside0.mk ho; have HB5 := Aside0.mk hb; have HX5 := Aside0.mk (blk_grown HX4.out hg HNe.out); clear ho hb hg hat))
              go_roundw
              case rel => exact ⟨i + 2, _, by omega, by omega, by go_num, HO5, ⟨HS4.out.esc h1i hl2 HZ.out HE.out⟩, ⟨by rw [List.length_append, List.length_singleton]; have := HL4.out; omega⟩, HX5, HB5⟩
              case measure => simp [intOf]; omega
            · have hdm : (d != 255) = true := by simpa using hd2
              have HE := Aside0.mk (HS4.out.bad hl2 HZ.out (by rw [hd]; exact hd1) (by rw [hd]; exact hd2))
              clear hd hd1 hd2
              go_wp2
              refine bodyPost_ret (results_ct rfl _ _ g1 46 #[.int .i64 (0), .int .i64 (0), .string (⟨#[]⟩ : ByteArray)] (0, 0) _ rfl (by (with_reducible repeat (first | refine blk_drewN ?_ _ | refine blk_drew ?_ | refine blk_alloc ?_ _)); refine blk_put (cs := #[.int .i64 (0), .int .i64 (0), .string (⟨#[]⟩ : ByteArray)]) ?_ 2 _ rfl; (with_reducible repeat (first | refine blk_drewN ?_ _ | refine blk_drew ?_ | refine blk_alloc ?_ _)); refine blk_put (cs := #[.int .i64 (0), .int .i64 (0), .string (⟨#[]⟩ : ByteArray)]) ?_ 1 _ rfl; (with_reducible repeat (first | refine blk_drewN ?_ _ | refine blk_drew ?_ | refine blk_alloc ?_ _)); refine blk_put (cs := #[.int .i64 (0), .int .i64 (0), .string (⟨#[]⟩ : ByteArray)]) ?_ 0 _ rfl; (with_reducible repeat (first | refine blk_drewN ?_ _ | refine blk_drew ?_ | refine blk_alloc ?_ _)); exact HX4.out) Try.underlying46 rfl (by kernel_rfl)) rfl ?_
              exact FirstText.no HE.out (by first | rfl | (simp; done)) (by repeat (first | (with_reducible first | exact HB4.out | apply below_alloc | apply pw_below_drewN | apply below_drew1 | refine below_set ?_ (by rw [HG1.out]; exact Nat.le_refl _)) | exact HB4.out))
      · have hn0 : (bt a0 (i : Int) != 0) = true := by simpa using hc
        have HZ := Aside0.mk hc
        clear hc
        go_wp2_with (first | ((with_reducible refine gate_builtin (b := .append) (xs := #[.tmp 70, .tmp 74]) rfl ?_); at_builtin; refine Kd.R_append (Kd.int .u8) (w0 := w) w.heap.size rfl (.tmp 70) (.tmp 74) 54 5 (.int .u8 0) 1 rfl Try.underlying54 info5 rfl (by decide) (by omega) u7 (t) (bt a0 (i : Int)) [.int .u8 (bt a0 (i : Int))] (fun k_ => k_ ≠ g1) (fun _ => False) rfl rfl ?aP (fun _ hk => hk.elim) ?aF ?aO ?aB ?aS ?aL ?_; (case aP => exact rfl); (case aB => exact HB4.out); (case aF => exact HFr.out); (case aO => exact HO4.out); (case aS => exact HB4.out.size); (case aL => (have := HLl.out; omega)); intro v5 w5 ho hb hg hat; have HO5 := Aside0.mk ho; have HB5 := Aside0.mk hb; have HX5 := Aside0.mk (blk_grown HX4.out hg HNe.out); clear ho hb hg hat))
        go_roundw
        case rel => exact ⟨i + 1, _, by omega, by omega, by go_num, HO5, ⟨HS4.out.plain h1i hlt HZ.out⟩, ⟨by rw [List.length_append, List.length_singleton]; have := HL4.out; omega⟩, HX5, HB5⟩
        case measure => simp [intOf]; omega
    · have hi' : i = a0.size := by omega
      subst hi'
      have HE := Aside0.mk HS4.out.over
      go_wp2
      refine bodyPost_ret (results_ct rfl _ _ g1 46 #[.int .i64 (0), .int .i64 (0), .string (⟨#[]⟩ : ByteArray)] (0, 0) _ rfl (by (with_reducible repeat (first | refine blk_drewN ?_ _ | refine blk_drew ?_ | refine blk_alloc ?_ _)); refine blk_put (cs := #[.int .i64 (0), .int .i64 (0), .string (⟨#[]⟩ : ByteArray)]) ?_ 2 _ rfl; (with_reducible repeat (first | refine blk_drewN ?_ _ | refine blk_drew ?_ | refine blk_alloc ?_ _)); refine blk_put (cs := #[.int .i64 (0), .int .i64 (0), .string (⟨#[]⟩ : ByteArray)]) ?_ 1 _ rfl; (with_reducible repeat (first | refine blk_drewN ?_ _ | refine blk_drew ?_ | refine blk_alloc ?_ _)); refine blk_put (cs := #[.int .i64 (0), .int .i64 (0), .string (⟨#[]⟩ : ByteArray)]) ?_ 0 _ rfl; (with_reducible repeat (first | refine blk_drewN ?_ _ | refine blk_drew ?_ | refine blk_alloc ?_ _)); exact HX4.out) Try.underlying46 rfl (by kernel_rfl)) rfl ?_
      exact FirstText.no HE.out (by first | rfl | (simp; done)) (by repeat (first | (with_reducible first | exact HB4.out | apply below_alloc | apply pw_below_drewN | apply below_drew1 | refine below_set ?_ (by rw [HG1.out]; exact Nat.le_refl _)) | exact HB4.out))

set_option maxHeartbeats 1600000 in
set_option maxRecDepth 100000 in
theorem first_num3 (k : Nat) (a0 : ByteArray) (w : World) (hs : a0.size ≤ 140737488355328) (hz : 0 < a0.size) (hc : bt a0 0 = 3) (hn : ¬ a0.size < 9) (n : Int) (hN : ambryref01_Number.f k (strOfNums (turn0 (bytesOf (a0.extract 1 9)))) 0 8 = some n) : Calls Try.prog 36 #[.string a0] w fun e w' => e = .returned (.tuple #[.agg #[.int .i64 (2), .int .i64 (n), .string (⟨#[]⟩ : ByteArray)], .int .i64 (9)]) ∧ Below w.heap.size w w' := by
  have hb0 : ((a0[0]'hz).toNat : Int) = 3 := by rw [← hc]; exact bt_at a0 0 hz
  have hn9 : decide ((a0.size : Int) < 9) = false := decide_eq_false (by omega)
  have hs9 : (9 : Int) ≤ (a0.size : Int) := by omega
  have h34 : ((3 : Int) == 3) = true := rfl
  have h44 : ((3 : Int) == 4) = false := rfl
  have HS8 : Aside0 ((a0.extract 1 9).size = 8) := ⟨by rw [ByteArray.size_extract]; omega⟩
  have HN := Aside0.mk hN
  obtain ⟨M, HM⟩ : ∃ M, Aside0 (bytesOf (a0.extract 1 9) = M) := ⟨_, ⟨rfl⟩⟩
  clear hn hc hN
  have kb := fun W => print_bytes (P := Try.prog) 9 54 5 Try.underlying9 Try.underlying54 Try.underlying5 (a0.extract 1 9) W
  go_enter Try.func36, Try.ntmps36
  go_wp2_with (first | ((with_reducible refine gate_dst (N := 2) rfl ?_); refine box_event ?hg (N := 2) ?hd (cs := #[.int .i64 0, .int .i64 0, .string (⟨#[]⟩ : ByteArray)]) (t := 46) ?hr ?_; (case hd => rfl); (case hg => rfl); (case hr => first | (go_simp; done) | (go_simp; rfl)); intro g1 hg w1 hbox hb; have HB1 := Aside0.mk hb; have HX1 := Aside0.mk hbox; have HG1 := Aside0.mk hg; clear hb hbox hg; have hcz0 : w1.cell? ⟨g1, 0, none⟩ = some (.int .i64 0) := (blk_cell HX1.out 0).trans rfl; have hcz1 : w1.cell? ⟨g1, 1, none⟩ = some (.int .i64 0) := (blk_cell HX1.out 1).trans rfl; have hcz2 : w1.cell? ⟨g1, 2, none⟩ = some (.string (⟨#[]⟩ : ByteArray)) := (blk_cell HX1.out 2).trans rfl; have hfz0 := blk_frozen HX1.out 0; have hfz1 := blk_frozen HX1.out 1; have hfz2 := blk_frozen HX1.out 2) | ((with_reducible refine gate_dst (N := 26) rfl ?_); refine bytes_event ?hg (N := 26) ?hd (a0.extract 1 9) ?hr ?_; (case hd => rfl); (case hg => rfl); (case hr => first | (go_simp; done) | (go_simp; rw [ByteArray.size_extract]) | (go_simp; rfl)); intro g cp w2 hg hcc hb; rw [HS8.out] at hcc ⊢; rw [HM.out] at hcc; have HG2 := Aside0.mk hg; have HC2 := Aside0.mk hcc; have HX2 := Aside0.mk (blk_below HX1.out hb); have HB2 := Aside0.mk (below_step HB1.out hb); clear hg hcc hb))
  clear hcz0 hcz1 hcz2 hfz0 hfz1 hfz2 kb
  refine wp_loop_rounds 1 ?_
  rw [rounds_succ]
  obtain ⟨wr, HWR⟩ : ∃ wr, Aside0 (w2 = wr) := ⟨_, ⟨rfl⟩⟩
  rw [HWR.out] at HC2 HX2 HB2 ⊢
  have HC4 := HC2
  have HX4 := HX2
  have HB4 := HB2
  obtain ⟨M2, HM2⟩ : ∃ M2, Aside0 (M = M2) := ⟨_, ⟨rfl⟩⟩
  rw [HM2.out] at HC4
  have HC5 := HC4
  obtain ⟨x, HX⟩ : ∃ x, Aside0 (M2.getD 0 0 = x) := ⟨_, ⟨rfl⟩⟩
  have hc0 := (HC5.out.2.2 0 (by decide)).1
  rw [HX.out] at hc0
  have hf0 := (HC5.out.2.2 0 (by decide)).2
  go_wp2
  clear hc0 hf0
  obtain ⟨w5, HW5⟩ : ∃ w5, Aside0 (wr.setCell ⟨g, 0, none⟩ (.int .u8 (Go.bits .xor .u8 x 128)) = w5) := ⟨_, ⟨rfl⟩⟩
  rw [HW5.out]
  have HC6 : Aside0 (CellsL 8 g (turn0 M2) w5) := ⟨by rw [← HW5.out]; unfold turn0; rw [HX.out]; exact HC5.out.set 0 (by decide) _⟩
  have HB5 : Aside0 (Below w.heap.size w w5) := ⟨by rw [← HW5.out]; exact HB4.out.setCell (by rw [HG2.out]; exact HB1.out.size) _⟩
  have HX5 : Aside0 (w5.heap[g1]? = some (.cells #[.int .i64 0, .int .i64 0, .string (⟨#[]⟩ : ByteArray)] 46 (0, 0))) := ⟨by rw [← HW5.out]; exact blk_far (p := ⟨g, 0, none⟩) HX4.out (show g1 ≠ g by rw [HG2.out]; have := blk_lt HX1.out; omega) _⟩
  have hconv : (convert 54 9 (.slice (some ⟨g, 0, none⟩) 8 cp)).run Try.prog w5.drew = .ok (.string (strOfNums (turn0 M2))) w5.drew := string_of_reads (w := w5.drew) Try.underlying54 Try.underlying5 Try.underlying9 (show ReadsInt w5.drew .u8 _ 8 _ from HC6.out.reads (by decide))
  have hcz0 : w5.cell? ⟨g1, 0, none⟩ = some (.int .i64 0) := (blk_cell HX5.out 0).trans rfl
  have hcz1 : w5.cell? ⟨g1, 1, none⟩ = some (.int .i64 0) := (blk_cell HX5.out 1).trans rfl
  have hcz2 : w5.cell? ⟨g1, 2, none⟩ = some (.string (⟨#[]⟩ : ByteArray)) := (blk_cell HX5.out 2).trans rfl
  have hfz0 := blk_frozen HX5.out 0
  have hfz1 := blk_frozen HX5.out 1
  have hfz2 := blk_frozen HX5.out 2
  have HN2 := Aside0.mk (show ambryref01_Number.f k (strOfNums (turn0 M2)) 0 8 = some n by rw [← HM2.out, ← HM.out]; exact HN.out)
  go_region_with (go_at_call 49; refine (ambryref01_Number.calls k _ 0 8 n _ HN2.out).mono ?_; rintro e w6 ⟨rfl, hd⟩; obtain ⟨m, rfl⟩ := hd.out)
  all_goals (try go_wp2)
  all_goals (refine bodyPost_ret (results_ct rfl _ _ g1 46 #[.int .i64 (2), .int .i64 (n), .string (⟨#[]⟩ : ByteArray)] (0, 0) _ rfl (by (with_reducible repeat (first | refine blk_drewN ?_ _ | refine blk_drew ?_ | refine blk_alloc ?_ _)); refine blk_put (cs := #[.int .i64 (2), .int .i64 (n), .string (⟨#[]⟩ : ByteArray)]) ?_ 2 _ rfl; (with_reducible repeat (first | refine blk_drewN ?_ _ | refine blk_drew ?_ | refine blk_alloc ?_ _)); refine blk_put (cs := #[.int .i64 (2), .int .i64 (0), .string (⟨#[]⟩ : ByteArray)]) ?_ 1 _ rfl; (with_reducible repeat (first | refine blk_drewN ?_ _ | refine blk_drew ?_ | refine blk_alloc ?_ _)); refine blk_put (cs := #[.int .i64 (0), .int .i64 (0), .string (⟨#[]⟩ : ByteArray)]) ?_ 0 _ rfl; (with_reducible repeat (first | refine blk_drewN ?_ _ | refine blk_drew ?_ | refine blk_alloc ?_ _)); exact HX5.out) Try.underlying46 rfl (by kernel_rfl)) rfl ?_)
  all_goals (exact ⟨by first | rfl | (simp; done), by repeat (first | (with_reducible first | exact HB5.out | apply below_alloc | apply pw_below_drewN | apply below_drew1 | refine below_set ?_ (by rw [HG1.out]; exact Nat.le_refl _)) | exact HB5.out)⟩)

set_option maxHeartbeats 1600000 in
set_option maxRecDepth 100000 in
theorem first_num4 (k : Nat) (a0 : ByteArray) (w : World) (hs : a0.size ≤ 140737488355328) (hz : 0 < a0.size) (hc : bt a0 0 = 4) (hn : ¬ a0.size < 9) (n : Int) (hN : ambryref01_Number.f k (strOfNums (turn0 ((bytesOf (a0.extract 1 9)).map turnF))) 0 8 = some n) : Calls Try.prog 36 #[.string a0] w fun e w' => e = .returned (.tuple #[.agg #[.int .i64 (3), .int .i64 (n), .string (⟨#[]⟩ : ByteArray)], .int .i64 (9)]) ∧ Below w.heap.size w w' := by
  have hb0 : ((a0[0]'hz).toNat : Int) = 4 := by rw [← hc]; exact bt_at a0 0 hz
  have hn9 : decide ((a0.size : Int) < 9) = false := decide_eq_false (by omega)
  have hs9 : (9 : Int) ≤ (a0.size : Int) := by omega
  have h34 : ((4 : Int) == 3) = false := rfl
  have h44 : ((4 : Int) == 4) = true := rfl
  have HS8 : Aside0 ((a0.extract 1 9).size = 8) := ⟨by rw [ByteArray.size_extract]; omega⟩
  have HN := Aside0.mk hN
  obtain ⟨M, HM⟩ : ∃ M, Aside0 (bytesOf (a0.extract 1 9) = M) := ⟨_, ⟨rfl⟩⟩
  clear hn hc hN
  have kb := fun W => print_bytes (P := Try.prog) 9 54 5 Try.underlying9 Try.underlying54 Try.underlying5 (a0.extract 1 9) W
  go_enter Try.func36, Try.ntmps36
  go_wp2_with (first | ((with_reducible refine gate_dst (N := 2) rfl ?_); refine box_event ?hg (N := 2) ?hd (cs := #[.int .i64 0, .int .i64 0, .string (⟨#[]⟩ : ByteArray)]) (t := 46) ?hr ?_; (case hd => rfl); (case hg => rfl); (case hr => first | (go_simp; done) | (go_simp; rfl)); intro g1 hg w1 hbox hb; have HB1 := Aside0.mk hb; have HX1 := Aside0.mk hbox; have HG1 := Aside0.mk hg; clear hb hbox hg; have hcz0 : w1.cell? ⟨g1, 0, none⟩ = some (.int .i64 0) := (blk_cell HX1.out 0).trans rfl; have hcz1 : w1.cell? ⟨g1, 1, none⟩ = some (.int .i64 0) := (blk_cell HX1.out 1).trans rfl; have hcz2 : w1.cell? ⟨g1, 2, none⟩ = some (.string (⟨#[]⟩ : ByteArray)) := (blk_cell HX1.out 2).trans rfl; have hfz0 := blk_frozen HX1.out 0; have hfz1 := blk_frozen HX1.out 1; have hfz2 := blk_frozen HX1.out 2) | ((with_reducible refine gate_dst (N := 26) rfl ?_); refine bytes_event ?hg (N := 26) ?hd (a0.extract 1 9) ?hr ?_; (case hd => rfl); (case hg => rfl); (case hr => first | (go_simp; done) | (go_simp; rw [ByteArray.size_extract]) | (go_simp; rfl)); intro g cp w2 hg hcc hb; rw [HS8.out] at hcc ⊢; rw [HM.out] at hcc; have HG2 := Aside0.mk hg; have HC2 := Aside0.mk hcc; have HX2 := Aside0.mk (blk_below HX1.out hb); have HB2 := Aside0.mk (below_step HB1.out hb); clear hg hcc hb))
  clear hcz0 hcz1 hcz2 hfz0 hfz1 hfz2 kb
  go_loopw [6] (fun vi wr => ∃ i : Nat, i ≤ 8 ∧ vi = .int .i64 i ∧ Aside0 (CellsL 8 g (turnTo M i) wr) ∧ Aside0 (wr.heap[g1]? = some (.cells #[.int .i64 0, .int .i64 0, .string (⟨#[]⟩ : ByteArray)] 46 (0, 0))) ∧ Aside0 (Below w.heap.size w wr)) (fun vi _ => 8 - (intOf vi).toNat)
  case atStart => exact ⟨0, Nat.zero_le _, rfl, by simpa [turnTo] using HC2, HX2, HB2⟩
  case round =>
  obtain ⟨i, hi, rfl, HC4, HX4, HB4⟩ := hrel
  by_cases hlt : i < 8
  · have hml : i < M.length := by rw [HC2.out.1]; exact hlt
    obtain ⟨y, HY⟩ : ∃ y, Aside0 (M.getD i 0 = y) := ⟨_, ⟨rfl⟩⟩
    have hc1 := (HC4.out.2.2 i hlt).1
    rw [turnTo_at M i hml, HY.out] at hc1
    have hf1 := (HC4.out.2.2 i hlt).2
    have HML := Aside0.mk hml
    clear hml
    go_wp2
    exact ⟨⟨i + 1, by omega, by go_num, ⟨by rw [← turnTo_set M i HML.out, HY.out]; exact HC4.out.set i hlt _⟩, ⟨blk_far (p := ⟨g, i, none⟩) HX4.out (show g1 ≠ g by rw [HG2.out]; have := blk_lt HX1.out; omega) _⟩, ⟨HB4.out.setCell (by rw [HG2.out]; exact HB1.out.size) _⟩⟩, by simp [intOf]; omega⟩
  have hi' : i = 8 := by omega
  subst hi'
  obtain ⟨M2, HM2⟩ : ∃ M2, Aside0 (M.map turnF = M2) := ⟨_, ⟨rfl⟩⟩
  have HC5 : Aside0 (CellsL 8 g M2 wr) := ⟨by
    have h := HC4.out
    have hl : M.length = 8 := HC2.out.1
    rw [← hl, turnTo_all, hl] at h
    rw [← HM2.out]
    exact h⟩
  clear hlt hi
  obtain ⟨x, HX⟩ : ∃ x, Aside0 (M2.getD 0 0 = x) := ⟨_, ⟨rfl⟩⟩
  have hc0 := (HC5.out.2.2 0 (by decide)).1
  rw [HX.out] at hc0
  have hf0 := (HC5.out.2.2 0 (by decide)).2
  go_wp2
  clear hc0 hf0
  obtain ⟨w5, HW5⟩ : ∃ w5, Aside0 (wr.setCell ⟨g, 0, none⟩ (.int .u8 (Go.bits .xor .u8 x 128)) = w5) := ⟨_, ⟨rfl⟩⟩
  rw [HW5.out]
  have HC6 : Aside0 (CellsL 8 g (turn0 M2) w5) := ⟨by rw [← HW5.out]; unfold turn0; rw [HX.out]; exact HC5.out.set 0 (by decide) _⟩
  have HB5 : Aside0 (Below w.heap.size w w5) := ⟨by rw [← HW5.out]; exact HB4.out.setCell (by rw [HG2.out]; exact HB1.out.size) _⟩
  have HX5 : Aside0 (w5.heap[g1]? = some (.cells #[.int .i64 0, .int .i64 0, .string (⟨#[]⟩ : ByteArray)] 46 (0, 0))) := ⟨by rw [← HW5.out]; exact blk_far (p := ⟨g, 0, none⟩) HX4.out (show g1 ≠ g by rw [HG2.out]; have := blk_lt HX1.out; omega) _⟩
  have hconv : (convert 54 9 (.slice (some ⟨g, 0, none⟩) 8 cp)).run Try.prog w5.drew = .ok (.string (strOfNums (turn0 M2))) w5.drew := string_of_reads (w := w5.drew) Try.underlying54 Try.underlying5 Try.underlying9 (show ReadsInt w5.drew .u8 _ 8 _ from HC6.out.reads (by decide))
  have hcz0 : w5.cell? ⟨g1, 0, none⟩ = some (.int .i64 0) := (blk_cell HX5.out 0).trans rfl
  have hcz1 : w5.cell? ⟨g1, 1, none⟩ = some (.int .i64 0) := (blk_cell HX5.out 1).trans rfl
  have hcz2 : w5.cell? ⟨g1, 2, none⟩ = some (.string (⟨#[]⟩ : ByteArray)) := (blk_cell HX5.out 2).trans rfl
  have hfz0 := blk_frozen HX5.out 0
  have hfz1 := blk_frozen HX5.out 1
  have hfz2 := blk_frozen HX5.out 2
  have HN2 := Aside0.mk (show ambryref01_Number.f k (strOfNums (turn0 M2)) 0 8 = some n by rw [← HM2.out, ← HM.out]; exact HN.out)
  go_region_with (go_at_call 49; refine (ambryref01_Number.calls k _ 0 8 n _ HN2.out).mono ?_; rintro e w6 ⟨rfl, hd⟩; obtain ⟨m, rfl⟩ := hd.out)
  all_goals (try go_wp2)
  all_goals (refine bodyPost_ret (results_ct rfl _ _ g1 46 #[.int .i64 (3), .int .i64 (n), .string (⟨#[]⟩ : ByteArray)] (0, 0) _ rfl (by (with_reducible repeat (first | refine blk_drewN ?_ _ | refine blk_drew ?_ | refine blk_alloc ?_ _)); refine blk_put (cs := #[.int .i64 (3), .int .i64 (n), .string (⟨#[]⟩ : ByteArray)]) ?_ 2 _ rfl; (with_reducible repeat (first | refine blk_drewN ?_ _ | refine blk_drew ?_ | refine blk_alloc ?_ _)); refine blk_put (cs := #[.int .i64 (3), .int .i64 (0), .string (⟨#[]⟩ : ByteArray)]) ?_ 1 _ rfl; (with_reducible repeat (first | refine blk_drewN ?_ _ | refine blk_drew ?_ | refine blk_alloc ?_ _)); refine blk_put (cs := #[.int .i64 (0), .int .i64 (0), .string (⟨#[]⟩ : ByteArray)]) ?_ 0 _ rfl; (with_reducible repeat (first | refine blk_drewN ?_ _ | refine blk_drew ?_ | refine blk_alloc ?_ _)); exact HX5.out) Try.underlying46 rfl (by kernel_rfl)) rfl ?_)
  all_goals (exact ⟨by first | rfl | (simp; done), by repeat (first | (with_reducible first | exact HB5.out | apply below_alloc | apply pw_below_drewN | apply below_drew1 | refine below_set ?_ (by rw [HG1.out]; exact Nat.le_refl _)) | exact HB5.out)⟩)

def ambryref02_first.f (k : Nat) (a0 : ByteArray) : Option (Int × Int × ByteArray × Int) :=
  if 0 < a0.size ∧ a0.size ≤ 140737488355328 then
    (if bt a0 0 = 3 then (if a0.size < 9 then some (0, 0, (⟨#[]⟩ : ByteArray), 0) else (ambryref01_Number.f k (strOfNums (turn0 (bytesOf (a0.extract 1 9)))) 0 8).bind fun n => some (2, n, (⟨#[]⟩ : ByteArray), 9))
    else if bt a0 0 = 4 then (if a0.size < 9 then some (0, 0, (⟨#[]⟩ : ByteArray), 0) else (ambryref01_Number.f k (strOfNums (turn0 ((bytesOf (a0.extract 1 9)).map turnF))) 0 8).bind fun n => some (3, n, (⟨#[]⟩ : ByteArray), 9))
    else if bt a0 0 = 2 then (match scanT ((bytesOf a0).drop 1) with | none => some (0, 0, (⟨#[]⟩ : ByteArray), 0) | some p => some (1, 0, strOfNums p.1, (p.2 : Int) + 1))
    else some (0, 0, (⟨#[]⟩ : ByteArray), 0))
  else none
theorem ambryref02_first.mono : ∀ a0 k, LeO (ambryref02_first.f k a0) (ambryref02_first.f (k + 1) a0) := by
  intro a0 k
  unfold ambryref02_first.f
  exact LeO.ite (LeO.ite (LeO.ite (LeO.refl _) (LeO.bind (ambryref01_Number.mono _ _ _ _) (fun _ => LeO.refl _))) (LeO.ite (LeO.ite (LeO.refl _) (LeO.bind (ambryref01_Number.mono _ _ _ _) (fun _ => LeO.refl _))) (LeO.refl _))) (LeO.none _)
theorem ambryref02_first.calls (k : Nat) (a0 : ByteArray) (r1 : Int) (r2 : Int) (r3 : ByteArray) (r4 : Int) (w : World) (h : ambryref02_first.f k a0 = some (r1, r2, r3, r4)) :
    Calls Try.prog 36 #[.string a0] w fun e w' => e = .returned (.tuple #[.agg #[.int .i64 r1, .int .i64 r2, .string r3], .int .i64 r4]) ∧ Below w.heap.size w w' := by
  unfold ambryref02_first.f at h
  by_cases hc : 0 < a0.size ∧ a0.size ≤ 140737488355328
  case neg => rw [if_neg hc] at h; exact absurd h (by simp)
  rw [if_pos hc] at h
  obtain ⟨hz, hs⟩ := hc
  by_cases h3 : bt a0 0 = 3
  · rw [if_pos h3] at h
    by_cases hn : a0.size < 9
    · rw [if_pos hn] at h
      simp only [Option.some.injEq, Prod.mk.injEq] at h
      obtain ⟨rfl, rfl, rfl, rfl⟩ := h
      exact first_short3 a0 w hs hz h3 hn
    · rw [if_neg hn] at h
      obtain ⟨n, hN, h⟩ := Option.bind_eq_some_iff.mp h
      simp only [Option.some.injEq, Prod.mk.injEq] at h
      obtain ⟨rfl, rfl, rfl, rfl⟩ := h
      exact first_num3 k a0 w hs hz h3 hn _ hN
  rw [if_neg h3] at h
  by_cases h4 : bt a0 0 = 4
  · rw [if_pos h4] at h
    by_cases hn : a0.size < 9
    · rw [if_pos hn] at h
      simp only [Option.some.injEq, Prod.mk.injEq] at h
      obtain ⟨rfl, rfl, rfl, rfl⟩ := h
      exact first_short4 a0 w hs hz h4 hn
    · rw [if_neg hn] at h
      obtain ⟨n, hN, h⟩ := Option.bind_eq_some_iff.mp h
      simp only [Option.some.injEq, Prod.mk.injEq] at h
      obtain ⟨rfl, rfl, rfl, rfl⟩ := h
      exact first_num4 k a0 w hs hz h4 hn _ hN
  rw [if_neg h4] at h
  by_cases h2 : bt a0 0 = 2
  · rw [if_pos h2] at h
    refine (first_text a0 w hs hz h2).mono ?_
    rintro e w' ⟨hb, he⟩
    refine ⟨?_, hb⟩
    rw [he]
    cases hq : scanT ((bytesOf a0).drop 1) with
    | none =>
      rw [hq] at h
      simp only [Option.some.injEq, Prod.mk.injEq] at h
      obtain ⟨rfl, rfl, rfl, rfl⟩ := h
      rfl
    | some p =>
      rw [hq] at h
      simp only [Option.some.injEq, Prod.mk.injEq] at h
      obtain ⟨rfl, rfl, rfl, rfl⟩ := h
      rfl
  · rw [if_neg h2] at h
    simp only [Option.some.injEq, Prod.mk.injEq] at h
    obtain ⟨rfl, rfl, rfl, rfl⟩ := h
    exact first_other a0 w hs hz (beq_eq_false_iff_ne.2 h2) (beq_eq_false_iff_ne.2 h3) (beq_eq_false_iff_ne.2 h4) (by simpa using h2)

end Go.Proofs.Ythcfkilofgfgpaa.A
