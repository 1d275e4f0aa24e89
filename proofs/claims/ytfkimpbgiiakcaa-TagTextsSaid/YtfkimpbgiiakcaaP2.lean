/- Plain facts: the document's texts of tags are the program's. -/
import Derived.Test.YtfkimpbgiiakcaaAx8
import Derived.Test.YtfkimpbgiiakcaaP1
namespace Go.Proofs.Ytfkimpbgiiakcaa.A
open Go.RowKit Go.Proofs.YtfkimpbgiiakcaaW.PrintWords Go.Proofs.YtfkimpbgiiakcaaW.PrintLast Go.Proofs.YtfkimpbgiiakcaaW.PrintMore
set_option linter.unusedVariables false
theorem rright_is (a b : Int) : ambryref03_Right.f a b = some (rightB a b) := by
  unfold ambryref03_Right.f rightB
  by_cases h1 : a ≥ 0
  · rw [if_pos h1]
    by_cases h2 : a < 1048573
    · rw [if_pos h2]
      by_cases h3 : b ≥ 0
      · rw [if_pos h3]
        by_cases h4 : b < 1048573 <;> simp [h1, h2, h3, h4]
      · rw [if_neg h3]
        simp [h3]
    · rw [if_neg h2]
      simp [h2]
  · rw [if_neg h1]
    simp [h1]
theorem nums_append (a b : List Int) : strOfNums (a ++ b) = strOfNums a ++ strOfNums b := by
  apply ByteArray.ext
  simp [strOfNums]
theorem one_digit : ∀ d : Fin 16, (⟨#[48, 49, 50, 51, 52, 53, 54, 55, 56, 57, 97, 98, 99, 100, 101, 102]⟩ : ByteArray).extract d.val (d.val + 1) = strOfNums [((hexDigit d.val : Nat) : Int)] := by decide +kernel
theorem wrap_nat (n : Nat) (h : n ≤ 9223372036854775807) : wrap64 (n : Int) = (n : Int) := wrap_ok _ (by omega) (by omega)
theorem wrap_next (n : Nat) (h : n < 9223372036854775807) : wrap64 ((n : Int) + 1) = ((n + 1 : Nat) : Int) := by rw [wrap_ok _ (by omega) (by omega)]; omega
/-- The lowest digits of a number, the highest of them first. -/
def lowHex (n : Int) : Nat → List Int
  | 0 => []
  | d + 1 => ((hexDigit (hexAt n d) : Nat) : Int) :: lowHex n d
theorem lowHex_len (n : Int) (d : Nat) : (lowHex n d).length = d := by
  induction d with
  | zero => rfl
  | succ d ih => simp [lowHex, ih]
theorem hexes_low (n : Int) : hexes n = lowHex n 5 := rfl
theorem rdigits_loop (n : Nat) (hn : n < 1048576) : ∀ (d i : Nat), i + d = 5 → Ev (fun k => ambryref03_digits.l0 k ((n / 16 ^ i : Nat) : Int) (strOfNums (lowHex n i)) (i : Int)) (strOfNums (hexes n)) := by
  intro d
  induction d with
  | zero =>
    intro i hi
    obtain rfl : i = 5 := by omega
    refine Ev.step (f := fun _ => some (strOfNums (hexes n))) (fun k => ?_) (Ev.now _)
    simp only [ambryref03_digits.l0]
    rw [if_neg (by omega)]
    rfl
  | succ d ih =>
    intro i hi
    have h2 := ih (i + 1) (by omega)
    refine Ev.step (fun k => ?_) h2
    have hq : n / 16 ^ i ≤ n := Nat.div_le_self _ _
    have hdiv : n / 16 ^ (i + 1) = n / 16 ^ i / 16 := by rw [Nat.pow_succ, Nat.div_div_eq_div_mul]
    have hat : hexAt (n : Int) i = n / 16 ^ i % 16 := rfl
    have hlow : lowHex (n : Int) (i + 1) = [((hexDigit (n / 16 ^ i % 16) : Nat) : Int)] ++ lowHex (n : Int) i := by
      rw [← hat]
      rfl
    have hlen := lowHex_len (n : Int) i
    rw [hdiv, hlow, nums_append]
    have hsz : (strOfNums (lowHex (n : Int) i)).size ≤ 5 := by rw [nums_size, hlen]; omega
    generalize n / 16 ^ i = q at *
    have e1 : Int.tmod (q : Int) 16 = ((q % 16 : Nat) : Int) := rfl
    have e2 : Int.tdiv (q : Int) 16 = ((q / 16 : Nat) : Int) := rfl
    have hm : q % 16 < 16 := Nat.mod_lt _ (by decide)
    have c1 : (i : Int) < 5 := by omega
    have c2 : (0 : Int) ≤ ((q % 16 : Nat) : Int) := by omega
    have c3 : ((q % 16 : Nat) : Int) ≤ ((q % 16 + 1 : Nat) : Int) := by omega
    have c4 : ((q % 16 + 1 : Nat) : Int) ≤ 16 := by omega
    have c5 : (strOfNums [((hexDigit (q % 16) : Nat) : Int)]).size + (strOfNums (lowHex (n : Int) i)).size ≤ 9223372036854775807 := by
      have hs1 : (strOfNums [((hexDigit (q % 16) : Nat) : Int)]).size = 1 := nums_size _
      omega
    have c6 : q % 16 < 9223372036854775807 := by omega
    have c7 : q / 16 ≤ 9223372036854775807 := by omega
    have c8 : i < 9223372036854775807 := by omega
    have hd := one_digit ⟨q % 16, hm⟩
    simp only at hd
    simp only [ambryref03_digits.l0]
    rw [e1, e2, wrap_next _ c6, wrap_nat _ c7, wrap_next _ c8, Int.toNat_natCast, Int.toNat_natCast, hd, if_pos c1, if_pos c2, if_pos c3, if_pos c4, if_pos c5]
theorem rdigits_ev (n : Int) (h0 : 0 ≤ n) (h1 : n < 1048576) : Ev (fun k => ambryref03_digits.f k n) (strOfNums (hexes n)) := by
  obtain ⟨m, rfl⟩ := Int.eq_ofNat_of_zero_le h0
  have h := rdigits_loop m (by omega) 5 0 rfl
  rw [Nat.pow_zero, Nat.div_one] at h
  exact h
theorem rightB_in {a b : Int} (h : rightB a b = true) : (0 ≤ a ∧ a < 1048573) ∧ (0 ≤ b ∧ b < 1048573) := of_decide_eq_true h
/-- What tag.Text tells. -/
def textOf (a b : Int) : ByteArray × Int := if rightB a b = true then (strOfNums (hexes a ++ hexes b), 0) else (⟨#[]⟩, 2)
theorem tag_Text_is (a b : Int) : tag_Text.f a b = some (textOf a b) := by
  unfold tag_Text.f textOf
  split <;> rfl
theorem rtext_ev (a b : Int) : Ev (fun k => ambryref03_Text.f k a b) (textOf a b) := by
  unfold textOf
  refine Ev.congr (f := fun k => (some (rightB a b)).bind fun t238 => (if t238 = true then ((ambryref03_digits.f k a).bind fun t239 => ((ambryref03_digits.f k b).bind fun t240 => (if t239.size + t240.size ≤ 9223372036854775807 then (some (t239 ++ t240, 0)) else (none)))) else (some ((⟨#[]⟩ : ByteArray), 2)))) (fun k => by unfold ambryref03_Text.f; rw [rright_is]) ?_
  cases h : rightB a b
  · simp only [Option.bind_some, Bool.false_eq_true, if_false]
    exact Ev.now _
  · simp only [Option.bind_some, if_true]
    have hr := rightB_in h
    refine Ev.bind (rdigits_ev a hr.1.1 (by omega)) (Ev.bind (rdigits_ev b hr.2.1 (by omega)) ?_)
    have e : (strOfNums (hexes a)).size + (strOfNums (hexes b)).size ≤ 9223372036854775807 := by
      rw [nums_size, nums_size]
      show 5 + 5 ≤ _
      decide
    simp only [if_pos e]
    rw [nums_append]
    exact Ev.now _
/-! ### values -/
def valOr (v : Option Int) : Int := match v with
  | some x => x
  | none => -1
theorem rvalue_step (s : ByteArray) (i : Nat) (v c : Int) (hlt : i < s.size) (hs : s.size ≤ 5) (h0 : 0 ≤ v) (h1 : v < 1048576) (hc : 0 ≤ c ∧ c ≤ 255) (hbt : bt s (i : Int) = c) (r : Int)
    (h : match digV c with
      | some d => Ev (fun k => ambryref03_value.l0 k s (v * 16 + d) ((i + 1 : Nat) : Int)) r
      | none => r = -1) : Ev (fun k => ambryref03_value.l0 k s v (i : Int)) r := by
  have a1 : (i : Int) < (s.size : Int) := by omega
  have a2 : (0 : Int) ≤ (i : Int) := by omega
  have wc : wrap64 c = c := wrap_ok c (by omega) (by omega)
  by_cases hA : 48 ≤ c ∧ c ≤ 57
  · have hd : digV c = some (c - 48) := by unfold digV; rw [if_pos hA]
    rw [hd] at h
    have h2 : Ev (fun k => ambryref03_value.l0 k s (v * 16 + (c - 48)) ((i + 1 : Nat) : Int)) r := h
    have e18 : 16 * v + c - 48 = v * 16 + (c - 48) := by omega
    have b1 : c ≥ 48 := hA.1
    refine Ev.step (f := fun k => ambryref03_value.j1 k s v (i : Int) c true) (fun k => ?_) (Ev.step (fun k => ?_) h2)
    · simp only [ambryref03_value.l0]
      rw [if_pos a1, if_pos a2, hbt, wc, if_pos b1, decide_eq_true hA.2]
    · simp only [ambryref03_value.j1, if_true]
      rw [wrap_ok (16 * v) (by clear wc; omega) (by clear wc; omega), wrap_ok (16 * v + c) (by clear wc; omega) (by clear wc; omega), wrap_ok (16 * v + c - 48) (by clear wc; omega) (by clear wc; omega), e18, wrap_next i (by clear wc; omega)]
  · have b2 : ∀ h : c ≥ 48, ¬ c ≤ 57 := fun h => by clear wc; omega
    have hj : ∀ k, ambryref03_value.l0 (k + 1) s v (i : Int) = ambryref03_value.j1 k s v (i : Int) c false := fun k => by
      simp only [ambryref03_value.l0]
      rw [if_pos a1, if_pos a2, hbt, wc]
      by_cases h48 : c ≥ 48
      · rw [if_pos h48, decide_eq_false (b2 h48)]
      · rw [if_neg h48]
    by_cases hB : 97 ≤ c ∧ c ≤ 102
    · have hd : digV c = some (c - 87) := by unfold digV; rw [if_neg hA, if_pos hB]
      rw [hd] at h
      have h2 : Ev (fun k => ambryref03_value.l0 k s (v * 16 + (c - 87)) ((i + 1 : Nat) : Int)) r := h
      have e19 : 16 * v + c - 97 + 10 = v * 16 + (c - 87) := by clear wc; omega
      have b3 : c ≥ 97 := hB.1
      refine Ev.step (f := fun k => ambryref03_value.j1 k s v (i : Int) c false) hj (Ev.step (fun k => ?_) h2)
      simp only [ambryref03_value.j1, Bool.false_eq_true, if_false]
      rw [if_pos b3, if_pos hB.2, wrap_ok (16 * v) (by clear wc; omega) (by clear wc; omega), wrap_ok (16 * v + c) (by clear wc; omega) (by clear wc; omega), wrap_ok (16 * v + c - 97) (by clear wc; omega) (by clear wc; omega), wrap_ok (16 * v + c - 97 + 10) (by clear wc; omega) (by clear wc; omega), e19, wrap_next i (by clear wc; omega)]
    · have hd : digV c = none := by unfold digV; rw [if_neg hA, if_neg hB]
      rw [hd] at h
      have hr : r = -1 := h
      subst hr
      have b4 : ∀ h : c ≥ 97, ¬ c ≤ 102 := fun h => by clear wc; omega
      refine Ev.step (f := fun k => ambryref03_value.j1 k s v (i : Int) c false) hj (Ev.step (f := fun _ => some (-1)) (fun k => ?_) (Ev.now _))
      simp only [ambryref03_value.j1, Bool.false_eq_true, if_false]
      by_cases h97 : c ≥ 97
      · rw [if_pos h97, if_neg (b4 h97)]
      · rw [if_neg h97]
theorem rvalue_loop (s : ByteArray) (hs : s.size ≤ 5) : ∀ (d i : Nat) (v : Int), i + d = s.size → 0 ≤ v → v < 16 ^ i → Ev (fun k => ambryref03_value.l0 k s v (i : Int)) (valOr (((bytesOf s).drop i).foldl hexStep (some v))) := by
  intro d
  induction d with
  | zero =>
    intro i v hi h0 h1
    obtain rfl : i = s.size := by omega
    rw [drop_end]
    refine Ev.step (f := fun _ => some v) (fun k => ?_) (Ev.now v)
    simp only [ambryref03_value.l0]
    rw [if_neg (by omega)]
  | succ d ih =>
    intro i v hi h0 h1
    have hlt : i < s.size := by omega
    have h5 := pow_five i (by omega)
    have hp : (16 : Int) ^ (i + 1) = 16 ^ i * 16 := Int.pow_succ _ _
    rw [drop_bt s i hlt, List.foldl_cons]
    refine rvalue_step s i v (bt s (i : Int)) hlt hs h0 (by omega) (bt_range s (i : Int)) rfl _ ?_
    cases hd : digV (bt s (i : Int)) with
    | none =>
      have e : hexStep (some v) (bt s (i : Int)) = none := by unfold hexStep; rw [Option.bind_some, hd]; rfl
      rw [e, hexFold_none]
      rfl
    | some x =>
      have e : hexStep (some v) (bt s (i : Int)) = some (v * 16 + x) := by unfold hexStep; rw [Option.bind_some, hd]; rfl
      have hr := digV_range hd
      rw [e]
      exact ih (i + 1) (v * 16 + x) (by omega) (by omega) (by omega)
theorem rvalue_ev (s : ByteArray) (hs : s.size ≤ 5) : Ev (fun k => ambryref03_value.f k s) (valOr (hexVal (bytesOf s))) :=
  rvalue_loop s hs s.size 0 0 (by omega) (by omega) (by decide)
theorem hexFold_range (l : List Int) : ∀ (v : Int), 0 ≤ v → ∀ x, l.foldl hexStep (some v) = some x → 0 ≤ x := by
  induction l with
  | nil => intro v hv x hx; obtain rfl := Option.some.inj hx; exact hv
  | cons c l ih =>
    intro v hv x hx
    rw [List.foldl_cons] at hx
    cases hd : digV c with
    | none =>
      have e : hexStep (some v) c = none := by unfold hexStep; rw [Option.bind_some, hd]; rfl
      rw [e, hexFold_none] at hx
      cases hx
    | some d =>
      have e : hexStep (some v) c = some (v * 16 + d) := by unfold hexStep; rw [Option.bind_some, hd]; rfl
      rw [e] at hx
      have := digV_range hd
      exact ih _ (by omega) x hx
/-- What tag.Parse tells. -/
def readOf (s : ByteArray) : Int × Int × Int := if s.size = 10 then parseOf (bytesOf s) else (0, 0, 4)
theorem tag_Parse_is (s : ByteArray) : tag_Parse.f s = some (readOf s) := by
  unfold tag_Parse.f readOf
  split <;> rfl
theorem bytes_extract (s : ByteArray) (a b : Nat) : bytesOf (s.extract a b) = ((bytesOf s).take b).drop a := by
  unfold bytesOf
  have e : (s.extract a b).data.toList = (s.data.toList.take b).drop a := by
    rw [ByteArray.data_extract, Array.toList_extract]
    rw [List.extract_eq_take_drop, List.drop_take]
  rw [e, List.map_drop, List.map_take]
theorem rparse_ev (s : ByteArray) (hs : s.size ≤ 140737488351232) : Ev (fun k => ambryref03_Parse.f k s) (readOf s) := by
  unfold readOf
  by_cases h : s.size = 10
  · rw [if_pos h]
    have z1 : (s.extract 0 5).size ≤ 5 := by rw [ByteArray.size_extract]; omega
    have z2 : (s.extract 5 s.size).size ≤ 5 := by rw [ByteArray.size_extract]; omega
    have b1 : bytesOf (s.extract 0 5) = (bytesOf s).take 5 := by rw [bytes_extract, List.drop_zero]
    have b2 : bytesOf (s.extract 5 s.size) = (bytesOf s).drop 5 := by rw [bytes_extract, ← bytesOf_length s, List.take_length]
    have v1 := rvalue_ev _ z1
    have v2 := rvalue_ev _ z2
    rw [b1] at v1
    rw [b2] at v2
    refine Ev.congr (f := fun k => (ambryref03_value.f k (s.extract 0 5)).bind fun t242 => ((ambryref03_value.f k (s.extract 5 s.size)).bind fun t243 => (some (if rightB t242 t243 = true then (t242, t243, 0) else (0, 0, 4))))) (fun k => ?_) (Ev.bind v1 (Ev.bind v2 (ev_val (Ev.now _) ?_)))
    · unfold ambryref03_Parse.f
      rw [if_pos (by omega), if_pos (by decide), if_pos (by omega)]
      congr 1
      funext x
      congr 1
      funext y
      rw [rright_is]
      simp only [Option.bind_some]
      split <;> rfl
    · unfold parseOf
      cases e1 : hexVal ((bytesOf s).take 5) with
      | none =>
        have : rightB (valOr none) (valOr (hexVal ((bytesOf s).drop 5))) = false := by
          unfold rightB
          have e : valOr none = -1 := rfl
          rw [e]
          exact decide_eq_false (by omega)
        rw [this]
        simp
      | some a =>
        cases e2 : hexVal ((bytesOf s).drop 5) with
        | none =>
          have : rightB (valOr (some a)) (valOr none) = false := by
            unfold rightB
            have e : valOr none = -1 := rfl
            rw [e]
            exact decide_eq_false (by omega)
          rw [this]
          simp
        | some b => rfl
  · rw [if_neg h]
    refine Ev.congr (f := fun _ => some (0, 0, 4)) (fun k => ?_) (Ev.now _)
    unfold ambryref03_Parse.f
    rw [if_neg (by omega)]
end Go.Proofs.Ytfkimpbgiiakcaa.A
