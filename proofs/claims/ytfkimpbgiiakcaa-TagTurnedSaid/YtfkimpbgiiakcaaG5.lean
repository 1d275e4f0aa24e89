/- A tag's text, told and read; the chapter's examples. -/
import Derived.Test.YtfkimpbgiiakcaaProg
import Derived.Below
import Derived.Deep.Draws
import Derived.Deep.AppendLies
import Derived.Maps.AppendAt
import Derived.OwnWalk
import Derived.Laws.BytesArg
import Derived.Laws.MakeOwn
import Derived.Laws.OwnMore
import Derived.Deep.OwnRows
import Derived.Tactics
import Derived.Lib.ConvBytes
import Derived.Laws.Slices
import Derived.WalkKit
import Derived.KernelRfl
import Derived.RowKit3
import Derived.Deep.LoopGhost
import Derived.Deep.QuietTactic
import Derived.BigQuiet
import Derived.WideLaws
import Derived.Deep.DeepCutAuto
import Derived.Deep.CutBlock
import Derived.Deep.RegionHeld3
import Derived.Laws.Rows
import Derived.Lib.AppendStr
import Derived.ArgAppend
import Derived.Laws.IdiomCopy
import Derived.OrdersHeld
import Derived.Laws.BitsLemmas
import Derived.RowKit
import Derived.Laws.Cover1
import Derived.Deep.RegionWith
import Derived.Deep.RegionLaw
import Derived.WalkMore
import Derived.ScopeJumps
import Derived.Test.YtfkimpbgiiakcaaWWords
import Derived.Test.YtfkimpbgiiakcaaWLast
import Derived.Test.YtfkimpbgiiakcaaWTab
import Derived.Test.YtfkimpbgiiakcaaWFour
import Derived.Test.YtfkimpbgiiakcaaWQPut
import Derived.Test.YtfkimpbgiiakcaaWApart
import Derived.Test.YtfkimpbgiiakcaaWArr
import Derived.Test.YtfkimpbgiiakcaaWZeros
import Derived.Test.YtfkimpbgiiakcaaWFoot
import Derived.Test.YtfkimpbgiiakcaaWKept
import Derived.Test.YtfkimpbgiiakcaaWShare
import Derived.Test.YtfkimpbgiiakcaaWN
import Derived.Test.YtfkimpbgiiakcaaWFootNe
import Derived.Test.YtfkimpbgiiakcaaWAt
import Derived.Test.YtfkimpbgiiakcaaWEqStruct
import Derived.Test.YtfkimpbgiiakcaaWRepsOne
import Derived.Test.YtfkimpbgiiakcaaWInv
import Derived.Test.YtfkimpbgiiakcaaWInvWords
import Derived.Test.YtfkimpbgiiakcaaWGuard
import Derived.Test.YtfkimpbgiiakcaaWNEv
import Derived.Test.YtfkimpbgiiakcaaWMore
import Derived.Lib.SlBytesConst
import Derived.Test.YtfkimpbgiiakcaaG4
namespace Go.Proofs.Ytfkimpbgiiakcaa.A
open Go.RowKit Go.Proofs.YtfkimpbgiiakcaaW.PrintWords Go.Proofs.YtfkimpbgiiakcaaW.PrintLast Go.Proofs.YtfkimpbgiiakcaaW.PrintMore
set_option linter.unusedVariables false
/-- What a digit is as a byte. -/
def hexDigit (d : Nat) : Nat := if d < 10 then 48 + d else 87 + d
/-- The digit at a place from the right. -/
def hexAt (n : Int) (i : Nat) : Nat := n.toNat / 16 ^ i % 16
def hexes (n : Int) : List Int := [(hexDigit (hexAt n 4) : Int), (hexDigit (hexAt n 3) : Int), (hexDigit (hexAt n 2) : Int), (hexDigit (hexAt n 1) : Int), (hexDigit (hexAt n 0) : Int)]
def tag_Text.f (a b : Int) : Option (ByteArray × Int) := if rightB a b = true then some (strOfNums (hexes a ++ hexes b), 0) else some (⟨#[]⟩, 2)
theorem hex_fin : ∀ d : Fin 16, (((⟨#[48, 49, 50, 51, 52, 53, 54, 55, 56, 57, 97, 98, 99, 100, 101, 102]⟩ : ByteArray)[d.val]'(by have := d.isLt; exact this)).toNat : Int) = ((hexDigit d.val : Nat) : Int) := by decide
theorem hex_byte (d : Nat) (h : d < 16) (h2 : d < (⟨#[48, 49, 50, 51, 52, 53, 54, 55, 56, 57, 97, 98, 99, 100, 101, 102]⟩ : ByteArray).size) : (((⟨#[48, 49, 50, 51, 52, 53, 54, 55, 56, 57, 97, 98, 99, 100, 101, 102]⟩ : ByteArray)[d]'h2).toNat : Int) = ((hexDigit d : Nat) : Int) := hex_fin ⟨d, h⟩
theorem hexAt_lt (n : Int) (i : Nat) : hexAt n i < 16 := Nat.mod_lt _ (by decide)
theorem and15 (x : Int) (h0 : 0 ≤ x) (h1 : x < 9223372036854775808) : bits .and .i64 x 15 = ((x.toNat % 16 : Nat) : Int) := by
  have hw : ∀ x : Int, 0 ≤ x → x < 2 ^ 63 → IntKind.i64.wrap x = x := fun x h0 h1 => by
    rw [IntKind.wrap_i64]
    omega
  obtain ⟨n, rfl⟩ := Int.eq_ofNat_of_zero_le h0
  have h2 := (bits_nat .i64 63 (by decide) hw n 15 (by omega) (by decide)).1
  rw [nat_mask4] at h2
  exact h2
theorem hex_and (n : Int) (h0 : 0 ≤ n) (h1 : n < 1048573) (i : Nat) (p : Int) (hp : p = ((16 ^ i : Nat) : Int)) : bits .and .i64 (n / p) 15 = ((hexAt n i : Nat) : Int) := by
  subst hp
  obtain ⟨m, rfl⟩ := Int.eq_ofNat_of_zero_le h0
  have e : (m : Int) / ((16 ^ i : Nat) : Int) = ((m / 16 ^ i : Nat) : Int) := (Int.natCast_ediv m (16 ^ i)).symm
  have hl : m / 16 ^ i ≤ m := Nat.div_le_self _ _
  generalize hq : m / 16 ^ i = q at *
  rw [e, and15 _ (by omega) (by omega), Int.toNat_natCast, ← hq]
  rfl
def texV (n : Int) (k j : Nat) : Value := .int .u8 (if j < k then ((hexDigit (hexAt n (4 - j)) : Nat) : Int) else 0)
def texC (a b : Int) (k : Nat) : Array Value := #[texV a k 0, texV a k 1, texV a k 2, texV a k 3, texV a k 4, texV b k 0, texV b k 1, texV b k 2, texV b k 3, texV b k 4]
set_option maxHeartbeats 4000000 in
set_option maxRecDepth 100000 in
theorem text_yes (a b : Int) (hr : rightB a b = true) (w : World) :
    Calls Try.prog 20 #[.agg #[.int .i64 a, .int .i64 b]] w fun e w' => e = .returned (.tuple #[.string (strOfNums (hexes a ++ hexes b)), .int .i64 0]) ∧ Below w.heap.size w w' := by
  have HC := Aside0.mk (show tag_Check.f a b = some 0 by rw [check_some, hr]; rfl)
  have hrl := of_decide_eq_true hr
  have HR := Aside0.mk hrl
  clear hr hrl
  go_enter Try.func20, Try.ntmps20
  go_wp2_with (first | ((with_reducible refine gate_dst (N := 1) rfl ?_); refine box_event ?hg (N := 1) ?hd (cs := #[.int .i64 a, .int .i64 b]) (t := 28) ?hr ?_; (case hd => rfl); (case hg => rfl); (case hr => first | (go_simp; done) | (go_simp; rfl)); intro g1 hg w1 hbox hb; have HW := Aside0.mk hb; have HX1 := Aside0.mk hbox; have HG1 := Aside0.mk hg; clear hb hbox hg; have hc10 : w1.cell? ⟨g1, 0, none⟩ = some (.int .i64 a) := (blk_cell HX1.out 0).trans rfl; have hc11 : w1.cell? ⟨g1, 1, none⟩ = some (.int .i64 b) := (blk_cell HX1.out 1).trans rfl) | ((with_reducible refine gate_dst (N := 5) rfl ?_); refine box_event ?hg (N := 5) ?hd (cs := texC a b 0) (t := 64) ?hr ?_; (case hd => rfl); (case hg => rfl); (case hr => first | (go_simp; done) | (go_simp; rfl)); intro g5 hg w5 hbox hb; have HX1c := Aside0.mk (blk_below HX1b.out hb); have HNE := Aside0.mk (show g1 ≠ g5 by have := blk_lt HX1b.out; omega); have HGE := Aside0.mk (show w.heap.size ≤ g5 by rw [hg]; exact HWb.out.size); have HWc := Aside0.mk (below_step HWb.out hb); have HX5 := Aside0.mk hbox; clear hb hbox hg HX1b HWb) | (go_at_call 18; (with_reducible refine (tag_Check.calls a b 0 _ HC.out).mono ?_); rintro e w4 ⟨rfl, hb⟩; have HX1b := Aside0.mk (blk_below HX1.out hb); have HWb := Aside0.mk (below_step HW.out hb); clear hb HX1 HW))
  clear hc10 hc11
  go_loopw [12] (fun vi wr => ∃ k : Nat, k ≤ 5 ∧ vi = .int .i64 k ∧ Aside0 (wr.heap[g1]? = some (.cells #[.int .i64 a, .int .i64 b] 28 (0, 0))) ∧ Aside0 (wr.heap[g5]? = some (.cells (texC a b k) 64 (0, 0))) ∧ Aside0 (Below w.heap.size w wr)) (fun vi _ => 5 - (intOf vi).toNat)
  case atStart => exact ⟨0, by omega, rfl, HX1c, HX5, HWc⟩
  case round =>
    obtain ⟨k, hk, rfl, HY1, HY5, HWr⟩ := hrel
    have hc10 : wr.cell? ⟨g1, 0, none⟩ = some (.int .i64 a) := (blk_cell HY1.out 0).trans rfl
    have hc11 : wr.cell? ⟨g1, 1, none⟩ = some (.int .i64 b) := (blk_cell HY1.out 1).trans rfl
    have hne := HNE.out
    have hne2 := Ne.symm HNE.out
    obtain rfl | rfl | rfl | rfl | rfl | rfl : k = 0 ∨ k = 1 ∨ k = 2 ∨ k = 3 ∨ k = 4 ∨ k = 5 := by omega
    · have hz0 : wr.cell? ⟨g5, 0, none⟩ = some (texV a 0 0) := (blk_cell HY5.out 0).trans rfl
      have hz1 : wr.cell? ⟨g5, 5, none⟩ = some (texV b 0 0) := (blk_cell HY5.out 5).trans rfl
      have hf0 := blk_frozen HY5.out 0
      have hf1 := blk_frozen HY5.out 5
      have ha := hex_and a HR.out.1.1 HR.out.1.2 4 65536 (by decide)
      have hb := hex_and b HR.out.2.1 HR.out.2.2 4 65536 (by decide)
      have hla := hexAt_lt a 4
      have hlb := hexAt_lt b 4
      obtain ⟨da, hda⟩ : ∃ da, hexAt a 4 = da := ⟨_, rfl⟩
      obtain ⟨db, hdb⟩ : ∃ db, hexAt b 4 = db := ⟨_, rfl⟩
      rw [hda] at ha hla
      rw [hdb] at hb hlb
      have HDA := Aside0.mk hda
      have HDB := Aside0.mk hdb
      clear hda hdb
      go_wp2
      exact ⟨⟨1, by omega, rfl, ⟨blk_far (blk_far HY1.out hne _) hne _⟩, ⟨by rw [hex_byte da hla, hex_byte db hlb, ← HDA.out, ← HDB.out]; exact blk_put (blk_put HY5.out 0 _ rfl) 5 _ rfl⟩, ⟨by refine below_set ?_ HGE.out; refine below_set ?_ HGE.out; exact HWr.out⟩⟩, by simp [intOf]⟩
    · have hz0 : wr.cell? ⟨g5, 1, none⟩ = some (texV a 1 1) := (blk_cell HY5.out 1).trans rfl
      have hz1 : wr.cell? ⟨g5, 6, none⟩ = some (texV b 1 1) := (blk_cell HY5.out 6).trans rfl
      have hf0 := blk_frozen HY5.out 1
      have hf1 := blk_frozen HY5.out 6
      have ha := hex_and a HR.out.1.1 HR.out.1.2 3 4096 (by decide)
      have hb := hex_and b HR.out.2.1 HR.out.2.2 3 4096 (by decide)
      have hla := hexAt_lt a 3
      have hlb := hexAt_lt b 3
      obtain ⟨da, hda⟩ : ∃ da, hexAt a 3 = da := ⟨_, rfl⟩
      obtain ⟨db, hdb⟩ : ∃ db, hexAt b 3 = db := ⟨_, rfl⟩
      rw [hda] at ha hla
      rw [hdb] at hb hlb
      have HDA := Aside0.mk hda
      have HDB := Aside0.mk hdb
      clear hda hdb
      go_wp2
      exact ⟨⟨2, by omega, rfl, ⟨blk_far (blk_far HY1.out hne _) hne _⟩, ⟨by rw [hex_byte da hla, hex_byte db hlb, ← HDA.out, ← HDB.out]; exact blk_put (blk_put HY5.out 1 _ rfl) 6 _ rfl⟩, ⟨by refine below_set ?_ HGE.out; refine below_set ?_ HGE.out; exact HWr.out⟩⟩, by simp [intOf]⟩
    · have hz0 : wr.cell? ⟨g5, 2, none⟩ = some (texV a 2 2) := (blk_cell HY5.out 2).trans rfl
      have hz1 : wr.cell? ⟨g5, 7, none⟩ = some (texV b 2 2) := (blk_cell HY5.out 7).trans rfl
      have hf0 := blk_frozen HY5.out 2
      have hf1 := blk_frozen HY5.out 7
      have ha := hex_and a HR.out.1.1 HR.out.1.2 2 256 (by decide)
      have hb := hex_and b HR.out.2.1 HR.out.2.2 2 256 (by decide)
      have hla := hexAt_lt a 2
      have hlb := hexAt_lt b 2
      obtain ⟨da, hda⟩ : ∃ da, hexAt a 2 = da := ⟨_, rfl⟩
      obtain ⟨db, hdb⟩ : ∃ db, hexAt b 2 = db := ⟨_, rfl⟩
      rw [hda] at ha hla
      rw [hdb] at hb hlb
      have HDA := Aside0.mk hda
      have HDB := Aside0.mk hdb
      clear hda hdb
      go_wp2
      exact ⟨⟨3, by omega, rfl, ⟨blk_far (blk_far HY1.out hne _) hne _⟩, ⟨by rw [hex_byte da hla, hex_byte db hlb, ← HDA.out, ← HDB.out]; exact blk_put (blk_put HY5.out 2 _ rfl) 7 _ rfl⟩, ⟨by refine below_set ?_ HGE.out; refine below_set ?_ HGE.out; exact HWr.out⟩⟩, by simp [intOf]⟩
    · have hz0 : wr.cell? ⟨g5, 3, none⟩ = some (texV a 3 3) := (blk_cell HY5.out 3).trans rfl
      have hz1 : wr.cell? ⟨g5, 8, none⟩ = some (texV b 3 3) := (blk_cell HY5.out 8).trans rfl
      have hf0 := blk_frozen HY5.out 3
      have hf1 := blk_frozen HY5.out 8
      have ha := hex_and a HR.out.1.1 HR.out.1.2 1 16 (by decide)
      have hb := hex_and b HR.out.2.1 HR.out.2.2 1 16 (by decide)
      have hla := hexAt_lt a 1
      have hlb := hexAt_lt b 1
      obtain ⟨da, hda⟩ : ∃ da, hexAt a 1 = da := ⟨_, rfl⟩
      obtain ⟨db, hdb⟩ : ∃ db, hexAt b 1 = db := ⟨_, rfl⟩
      rw [hda] at ha hla
      rw [hdb] at hb hlb
      have HDA := Aside0.mk hda
      have HDB := Aside0.mk hdb
      clear hda hdb
      go_wp2
      exact ⟨⟨4, by omega, rfl, ⟨blk_far (blk_far HY1.out hne _) hne _⟩, ⟨by rw [hex_byte da hla, hex_byte db hlb, ← HDA.out, ← HDB.out]; exact blk_put (blk_put HY5.out 3 _ rfl) 8 _ rfl⟩, ⟨by refine below_set ?_ HGE.out; refine below_set ?_ HGE.out; exact HWr.out⟩⟩, by simp [intOf]⟩
    · have hz0 : wr.cell? ⟨g5, 4, none⟩ = some (texV a 4 4) := (blk_cell HY5.out 4).trans rfl
      have hz1 : wr.cell? ⟨g5, 9, none⟩ = some (texV b 4 4) := (blk_cell HY5.out 9).trans rfl
      have hf0 := blk_frozen HY5.out 4
      have hf1 := blk_frozen HY5.out 9
      have ha := hex_and a HR.out.1.1 HR.out.1.2 0 1 (by decide)
      have hb := hex_and b HR.out.2.1 HR.out.2.2 0 1 (by decide)
      have hla := hexAt_lt a 0
      have hlb := hexAt_lt b 0
      obtain ⟨da, hda⟩ : ∃ da, hexAt a 0 = da := ⟨_, rfl⟩
      obtain ⟨db, hdb⟩ : ∃ db, hexAt b 0 = db := ⟨_, rfl⟩
      rw [hda] at ha hla
      rw [hdb] at hb hlb
      have HDA := Aside0.mk hda
      have HDB := Aside0.mk hdb
      clear hda hdb
      rw [Int.ediv_one] at ha hb
      go_wp2
      exact ⟨⟨5, by omega, rfl, ⟨blk_far (blk_far HY1.out hne _) hne _⟩, ⟨by rw [hex_byte da hla, hex_byte db hlb, ← HDA.out, ← HDB.out]; exact blk_put (blk_put HY5.out 4 _ rfl) 9 _ rfl⟩, ⟨by refine below_set ?_ HGE.out; refine below_set ?_ HGE.out; exact HWr.out⟩⟩, by simp [intOf]⟩
    · have hconv : (convert 22 9 (.slice (some ⟨g5, 0, none⟩) 10 10)).run Try.prog wr = .ok (.string (strOfNums (hexes a ++ hexes b))) wr := string_of_reads Try.underlying22 Try.underlying5 Try.underlying9 ⟨rfl, by decide, fun _ => ⟨_, rfl, fun i hi => by
        rw [add_plain, blk_cell HY5.out]
        obtain rfl | rfl | rfl | rfl | rfl | rfl | rfl | rfl | rfl | rfl : i = 0 ∨ i = 1 ∨ i = 2 ∨ i = 3 ∨ i = 4 ∨ i = 5 ∨ i = 6 ∨ i = 7 ∨ i = 8 ∨ i = 9 := by omega
        all_goals rfl⟩⟩
      go_wp2
      go_ret2
      exact ⟨rfl, HWr.out⟩
set_option maxHeartbeats 4000000 in
set_option maxRecDepth 100000 in
theorem text_no (a b : Int) (hr : rightB a b = false) (w : World) :
    Calls Try.prog 20 #[.agg #[.int .i64 a, .int .i64 b]] w fun e w' => e = .returned (.tuple #[.string ⟨#[]⟩, .int .i64 2]) ∧ Below w.heap.size w w' := by
  have HC := Aside0.mk (show tag_Check.f a b = some 2 by rw [check_some, hr]; rfl)
  clear hr
  go_enter Try.func20, Try.ntmps20
  go_wp2_with (first | ((with_reducible refine gate_dst (N := 1) rfl ?_); refine box_event ?hg (N := 1) ?hd (cs := #[.int .i64 a, .int .i64 b]) (t := 28) ?hr ?_; (case hd => rfl); (case hg => rfl); (case hr => first | (go_simp; done) | (go_simp; rfl)); intro g1 hg w1 hbox hb; have HW := Aside0.mk hb; have HX1 := Aside0.mk hbox; have HG1 := Aside0.mk hg; clear hb hbox hg; have hc10 : w1.cell? ⟨g1, 0, none⟩ = some (.int .i64 a) := (blk_cell HX1.out 0).trans rfl; have hc11 : w1.cell? ⟨g1, 1, none⟩ = some (.int .i64 b) := (blk_cell HX1.out 1).trans rfl) | (go_at_call 18; (with_reducible refine (tag_Check.calls a b 2 _ HC.out).mono ?_); rintro e w4 ⟨rfl, hb⟩; have HWb := Aside0.mk (below_step HW.out hb); clear hb HX1 HW))
  go_ret2
  exact ⟨rfl, HWb.out⟩
theorem tag_Text.calls (a b : Int) (r1 : ByteArray) (r2 : Int) (w : World) (h : tag_Text.f a b = some (r1, r2)) :
    Calls Try.prog 20 #[.agg #[.int .i64 a, .int .i64 b]] w fun e w' => e = .returned (.tuple #[.string r1, .int .i64 r2]) ∧ Below w.heap.size w w' := by
  unfold tag_Text.f at h
  cases hr : rightB a b
  · rw [if_neg (by rw [hr]; decide)] at h
    simp only [Option.some.injEq, Prod.mk.injEq] at h
    obtain ⟨rfl, rfl⟩ := h
    exact text_no a b hr w
  · rw [if_pos hr] at h
    simp only [Option.some.injEq, Prod.mk.injEq] at h
    obtain ⟨rfl, rfl⟩ := h
    exact text_yes a b hr w
end Go.Proofs.Ytfkimpbgiiakcaa.A
namespace Go.Proofs.Ytfkimpbgiiakcaa.A
open Go.RowKit Go.Proofs.YtfkimpbgiiakcaaW.PrintWords Go.Proofs.YtfkimpbgiiakcaaW.PrintLast Go.Proofs.YtfkimpbgiiakcaaW.PrintMore
set_option linter.unusedVariables false
/-- What a digit is worth; none: it is none. -/
def digV (c : Int) : Option Int := if 48 ≤ c ∧ c ≤ 57 then some (c - 48) else if 97 ≤ c ∧ c ≤ 102 then some (c - 87) else none
def hexStep (v : Option Int) (c : Int) : Option Int := v.bind fun v => (digV c).map fun d => v * 16 + d
def hexVal (l : List Int) : Option Int := l.foldl hexStep (some 0)
theorem hexVal_snoc (l : List Int) (c : Int) : hexVal (l ++ [c]) = hexStep (hexVal l) c := by unfold hexVal; rw [List.foldl_append]; rfl
theorem hexFold_none (m : List Int) : m.foldl hexStep none = none := by
  induction m with
  | nil => rfl
  | cons c m ih => exact ih
theorem hexVal_none {l : List Int} (h : hexVal l = none) (m : List Int) : hexVal (l ++ m) = none := by
  unfold hexVal at h ⊢
  rw [List.foldl_append, h, hexFold_none]
theorem digV_range {c d : Int} (h : digV c = some d) : 0 ≤ d ∧ d < 16 := by
  unfold digV at h
  split at h
  · obtain rfl := Option.some.inj h; omega
  · split at h
    · obtain rfl := Option.some.inj h; omega
    · cases h
set_option maxHeartbeats 1000000 in
set_option maxRecDepth 100000 in
theorem digit_yes (c d : Int) (h : digV c = some d) (w : World) : Calls Try.prog 35 #[.int .u8 c] w fun e w' => e = .returned (.tuple #[.int .i64 d, .bool true]) ∧ Drawn0 w w' := by
  unfold digV at h
  by_cases h1 : 48 ≤ c ∧ c ≤ 57
  · rw [if_pos h1] at h
    obtain rfl := Option.some.inj h
    have e : (c - 48) % 256 = c - 48 := by omega
    obtain ⟨a, b⟩ := h1
    have a' : decide ((48 : Int) ≤ c) = true := decide_eq_true a
    have b' : decide (c ≤ (57 : Int)) = true := decide_eq_true b
    go_enter Try.func35, Try.ntmps35
    go_wp2
    go_ret2
    exact ⟨by first | rfl | (simp [*]; done), by repeat (first | exact Drawn0.refl _ | apply Drawn0.step)⟩
  · rw [if_neg h1] at h
    by_cases h2 : 97 ≤ c ∧ c ≤ 102
    · rw [if_pos h2] at h
      obtain rfl := Option.some.inj h
      obtain ⟨a, b⟩ := h2
      have e : (c - 97) % 256 = c - 97 := by omega
      have e2 : c - 97 + 10 = c - 87 := by omega
      have a0 : 48 ≤ c := by omega
      have b0 : ¬ c ≤ 57 := by omega
      have b1 : 57 < c := by omega
      clear h1
      go_enter Try.func35, Try.ntmps35
      go_wp2
      go_ret2
      exact ⟨by first | rfl | (simp [*]; done) | (simp [e, e2]; done), by repeat (first | exact Drawn0.refl _ | apply Drawn0.step)⟩
    · rw [if_neg h2] at h
      cases h
set_option maxHeartbeats 1000000 in
set_option maxRecDepth 100000 in
theorem digit_no (c : Int) (h : digV c = none) (w : World) : Calls Try.prog 35 #[.int .u8 c] w fun e w' => e = .returned (.tuple #[.int .i64 0, .bool false]) ∧ Drawn0 w w' := by
  unfold digV at h
  by_cases h1 : 48 ≤ c ∧ c ≤ 57
  · rw [if_pos h1] at h
    cases h
  · rw [if_neg h1] at h
    by_cases h2 : 97 ≤ c ∧ c ≤ 102
    · rw [if_pos h2] at h
      cases h
    · clear h
      by_cases hA : 48 ≤ c
      · have hB : 57 < c := by omega
        by_cases hC : 97 ≤ c
        · have hD : 102 < c := by omega
          clear h1 h2
          go_enter Try.func35, Try.ntmps35
          go_wp2
          go_ret2
          exact ⟨rfl, by repeat (first | exact Drawn0.refl _ | apply Drawn0.step)⟩
        · have hC' : c < 97 := by omega
          clear h1 h2 hC
          go_enter Try.func35, Try.ntmps35
          go_wp2
          go_ret2
          exact ⟨rfl, by repeat (first | exact Drawn0.refl _ | apply Drawn0.step)⟩
      · have hA' : c < 48 := by omega
        have hC' : c < 97 := by omega
        clear h1 h2 hA
        go_enter Try.func35, Try.ntmps35
        go_wp2
        go_ret2
        exact ⟨rfl, by repeat (first | exact Drawn0.refl _ | apply Drawn0.step)⟩
def parseOf (l : List Int) : Int × Int × Int :=
  match hexVal (l.take 5), hexVal (l.drop 5) with
  | some a, some b => if rightB a b = true then (a, b, 0) else (0, 0, 4)
  | _, _ => (0, 0, 4)
def tag_Parse.f (s : ByteArray) : Option (Int × Int × Int) := if s.size = 10 then some (parseOf (bytesOf s)) else some (0, 0, 4)
set_option maxHeartbeats 1000000 in
set_option maxRecDepth 100000 in
theorem parse_short (s : ByteArray) (hs : s.size ≠ 10) (w : World) : Calls Try.prog 22 #[.string s] w fun e w' => e = .returned (.tuple #[.agg #[.int .i64 0, .int .i64 0], .int .i64 4]) ∧ Below w.heap.size w w' := by
  have HH : Aside0 ((0 : Int) = 0 ∧ (0 : Int) = 0 ∧ (4 : Int) = 4) := ⟨rfl, rfl, rfl⟩
  have hc : ((s.size : Int) != 10) = true := bne_iff_ne.2 (by omega)
  have hc2 : ((s.size : Int) == 10) = false := beq_eq_false_iff_ne.2 (by omega)
  go_enter Try.func22, Try.ntmps22
  go_wp2_with (first | ((with_reducible refine gate_dst (N := 2) rfl ?_); refine box_event ?hg (N := 2) ?hd (cs := #[.int .i64 0, .int .i64 0]) (t := 28) ?hr ?_; (case hd => rfl); (case hg => rfl); (case hr => first | (go_simp; done) | (go_simp; rfl)); intro g2 hg w2 hbox hb; have HW2 := Aside0.mk hb; have HX2 := Aside0.mk hbox; have HG2 := Aside0.mk (show w.heap.size ≤ g2 by omega); clear hb hbox hg; have hcz0 : w2.cell? ⟨g2, 0, none⟩ = some (.int .i64 0) := (blk_cell HX2.out 0).trans rfl; have hcz1 : w2.cell? ⟨g2, 1, none⟩ = some (.int .i64 0) := (blk_cell HX2.out 1).trans rfl; have hfz0 := blk_frozen HX2.out 0; have hfz1 := blk_frozen HX2.out 1))
  refine bodyPost_ret (results_ct rfl _ _ g2 28 #[.int .i64 0, .int .i64 0] (0, 0) _ rfl (by (with_reducible repeat (first | refine blk_drewN ?_ _ | refine blk_drew ?_ | refine blk_alloc ?_ _)); refine blk_put (cs := #[.int .i64 0, .int .i64 0]) ?_ 1 _ rfl; (with_reducible repeat (first | refine blk_drewN ?_ _ | refine blk_drew ?_ | refine blk_alloc ?_ _)); refine blk_put (cs := #[.int .i64 0, .int .i64 0]) ?_ 0 _ rfl; (with_reducible repeat (first | refine blk_drewN ?_ _ | refine blk_drew ?_ | refine blk_alloc ?_ _)); exact HX2.out) Try.underlying28 rfl (by kernel_rfl)) rfl ?_
  exact ⟨by first | rfl | (rw [HH.out.1, HH.out.2.1, HH.out.2.2]; rfl), by repeat (first | (with_reducible first | exact HW2.out | apply below_alloc | apply pw_below_drewN | apply below_drew1 | refine below_set ?_ HG2.out) | exact HW2.out)⟩
theorem pow_five (i : Nat) (h : i ≤ 5) : (16 : Int) ^ i ≤ 1048576 := by
  obtain rfl | rfl | rfl | rfl | rfl | rfl : i = 0 ∨ i = 1 ∨ i = 2 ∨ i = 3 ∨ i = 4 ∨ i = 5 := by omega
  all_goals decide
theorem join_hex (n d : Int) (h0 : 0 ≤ n) (h1 : n < 1048576) (d0 : 0 ≤ d) (d1 : d < 16) : bits .or .i64 (n * 16) d = n * 16 + d := by
  have hw : ∀ x : Int, 0 ≤ x → x < 2 ^ 63 → IntKind.i64.wrap x = x := fun x h0 h1 => by
    rw [IntKind.wrap_i64]
    omega
  exact bits_join .i64 63 (by decide) hw 4 (n * 16) d (by omega) (by omega) (by omega) d0 (by omega) (by omega)
/-- What the two numbers are behind k digits. -/
def PairAt (l : List Int) (k : Nat) (a b : Int) : Prop := hexVal ((l.take 5).take k) = some a ∧ hexVal ((l.drop 5).take (k - 5)) = some b ∧ (0 ≤ a ∧ a < 16 ^ (min k 5)) ∧ (0 ≤ b ∧ b < 16 ^ (k - 5))
theorem take_getD {l : List Int} {k : Nat} (h : k < l.length) : l.take (k + 1) = l.take k ++ [l.getD k 0] := by
  rw [List.take_succ_eq_append_getElem h]
  simp [List.getD_eq_getElem?_getD, List.getElem?_eq_getElem h]
theorem hexVal_take_none {l : List Int} {k : Nat} (h : k < l.length) {a : Int} (ha : hexVal (l.take k) = some a) (hd : digV (l.getD k 0) = none) : hexVal l = none := by
  have h1 : hexVal (l.take (k + 1)) = none := by
    rw [take_getD h, hexVal_snoc, ha]
    unfold hexStep
    rw [Option.bind_some, hd]
    rfl
  have h2 := hexVal_none h1 (l.drop (k + 1))
  rwa [List.take_append_drop] at h2
theorem hexVal_take_some {l : List Int} {k : Nat} (h : k < l.length) {a d : Int} (ha : hexVal (l.take k) = some a) (hd : digV (l.getD k 0) = some d) : hexVal (l.take (k + 1)) = some (a * 16 + d) := by
  rw [take_getD h, hexVal_snoc, ha]
  unfold hexStep
  rw [Option.bind_some, hd]
  rfl
theorem take5 (l : List Int) (hl : l.length = 10) (k : Nat) (hk : k < 5) : (l.take 5).getD k 0 = l.getD k 0 ∧ k < (l.take 5).length := by
  constructor
  · simp only [List.getD_eq_getElem?_getD, List.getElem?_take]
    rw [if_pos hk]
  · rw [List.length_take]; omega
theorem drop5 (l : List Int) (hl : l.length = 10) (k : Nat) (h5 : 5 ≤ k) (hk : k < 10) : (l.drop 5).getD (k - 5) 0 = l.getD k 0 ∧ k - 5 < (l.drop 5).length := by
  constructor
  · simp only [List.getD_eq_getElem?_getD, List.getElem?_drop]
    rw [show 5 + (k - 5) = k by omega]
  · rw [List.length_drop]; omega
theorem PairAt.bad {l : List Int} {k : Nat} {a b c : Int} (h : PairAt l k a b) (hl : l.length = 10) (hk : k < 10) (hc : l.getD k 0 = c) (hd : digV c = none) : parseOf l = (0, 0, 4) := by
  obtain ⟨h1, h2, _, _⟩ := h
  by_cases h5 : k < 5
  · obtain ⟨e1, e2⟩ := take5 l hl k h5
    have h3 := hexVal_take_none e2 h1 (by rw [e1, hc, hd])
    unfold parseOf
    rw [h3]
  · obtain ⟨e1, e2⟩ := drop5 l hl k (by omega) hk
    have h3 := hexVal_take_none e2 h2 (by rw [e1, hc, hd])
    unfold parseOf
    rw [h3]
    cases hexVal (l.take 5) <;> rfl
theorem PairAt.left {l : List Int} {k : Nat} {a b c d : Int} (h : PairAt l k a b) (hl : l.length = 10) (hk : k < 5) (hc : l.getD k 0 = c) (hd : digV c = some d) : PairAt l (k + 1) (a * 16 + d) b := by
  obtain ⟨h1, h2, h3, h4⟩ := h
  obtain ⟨e1, e2⟩ := take5 l hl k hk
  have hr := digV_range hd
  have m1 : min k 5 = k := by omega
  have m2 : min (k + 1) 5 = k + 1 := by omega
  have m3 : k - 5 = 0 := by omega
  have m4 : k + 1 - 5 = 0 := by omega
  rw [m1] at h3
  rw [m3] at h2 h4
  refine ⟨hexVal_take_some e2 h1 (by rw [e1, hc, hd]), by rw [m4]; exact h2, ?_, by rw [m4]; exact h4⟩
  rw [m2, Int.pow_succ]
  generalize (16 : Int) ^ k = p at *
  omega
theorem PairAt.right {l : List Int} {k : Nat} {a b c d : Int} (h : PairAt l k a b) (hl : l.length = 10) (h5 : 5 ≤ k) (hk : k < 10) (hc : l.getD k 0 = c) (hd : digV c = some d) : PairAt l (k + 1) a (b * 16 + d) := by
  obtain ⟨h1, h2, h3, h4⟩ := h
  obtain ⟨e1, e2⟩ := drop5 l hl k h5 hk
  have hr := digV_range hd
  have m1 : min k 5 = 5 := by omega
  have m2 : min (k + 1) 5 = 5 := by omega
  have m3 : k + 1 - 5 = (k - 5) + 1 := by omega
  have m5 : (l.take 5).take (k + 1) = (l.take 5).take k := by
    have hq : (l.take 5).length = 5 := by rw [List.length_take]; omega
    generalize l.take 5 = q at hq
    rw [List.take_of_length_le (by omega), List.take_of_length_le (by omega)]
  refine ⟨by rw [m5]; exact h1, by rw [m3]; exact hexVal_take_some e2 h2 (by rw [e1, hc, hd]), by rw [m2, ← m1]; exact h3, ?_⟩
  rw [m3, Int.pow_succ]
  generalize (16 : Int) ^ (k - 5) = p at *
  omega
theorem PairAt.last {l : List Int} {a b : Int} (h : PairAt l 10 a b) (hl : l.length = 10) : parseOf l = if rightB a b = true then (a, b, 0) else (0, 0, 4) := by
  obtain ⟨h1, h2, _, _⟩ := h
  rw [List.take_of_length_le (by rw [List.length_take]; omega)] at h1
  rw [List.take_of_length_le (by rw [List.length_drop]; omega)] at h2
  unfold parseOf
  rw [h1, h2]
set_option maxHeartbeats 4000000 in
set_option maxRecDepth 100000 in
theorem parse_ten (s : ByteArray) (hs : s.size = 10) (r1 r2 r3 : Int) (h : parseOf (bytesOf s) = (r1, r2, r3)) (w : World) : Calls Try.prog 22 #[.string s] w fun e w' => e = .returned (.tuple #[.agg #[.int .i64 r1, .int .i64 r2], .int .i64 r3]) ∧ Below w.heap.size w w' := by
  have HP := Aside0.mk h
  have HS := Aside0.mk hs
  have HSL := Aside0.mk (show (bytesOf s).length = 10 by rw [bytesOf_length, hs])
  have hc : ((s.size : Int) != 10) = false := by rw [hs]; rfl
  have hc2 : ((s.size : Int) == 10) = true := by rw [hs]; rfl
  clear h hs
  go_enter Try.func22, Try.ntmps22
  go_wp2_with (first | ((with_reducible refine gate_dst (N := 2) rfl ?_); refine box_event ?hg (N := 2) ?hd (cs := #[.int .i64 0, .int .i64 0]) (t := 28) ?hr ?_; (case hd => rfl); (case hg => rfl); (case hr => first | (go_simp; done) | (go_simp; rfl)); intro g2 hg w2 hbox hb; have HW2 := Aside0.mk hb; have HX2 := Aside0.mk hbox; have HG2 := Aside0.mk (show w.heap.size ≤ g2 by omega); clear hb hbox hg; have hcz0 : w2.cell? ⟨g2, 0, none⟩ = some (.int .i64 0) := (blk_cell HX2.out 0).trans rfl; have hcz1 : w2.cell? ⟨g2, 1, none⟩ = some (.int .i64 0) := (blk_cell HX2.out 1).trans rfl; have hfz0 := blk_frozen HX2.out 0; have hfz1 := blk_frozen HX2.out 1) | ((with_reducible refine gate_dst (N := 4) rfl ?_); refine box_event ?hg (N := 4) ?hd (cs := #[.int .i64 0, .int .i64 0]) (t := 63) ?hr ?_; (case hd => rfl); (case hg => rfl); (case hr => first | (go_simp; done) | (go_simp; rfl)); intro g4 hg w4 hbox hb; have HX2b := Aside0.mk (blk_below HX2.out hb); have HNE := Aside0.mk (show g2 ≠ g4 by have := blk_lt HX2.out; omega); have HG4 := Aside0.mk (show w.heap.size ≤ g4 by rw [hg]; exact HW2.out.size); have HW4 := Aside0.mk (below_step HW2.out hb); have HX4 := Aside0.mk hbox; clear hb hbox hg HX2 HW2))
  clear hcz0 hcz1 hfz0 hfz1
  go_loopw [13] (fun vi wr => ∃ (k : Nat) (a b : Int), k ≤ 10 ∧ vi = .int .i64 k ∧ Aside0 (PairAt (bytesOf s) k a b) ∧ Aside0 (wr.heap[g2]? = some (.cells #[.int .i64 0, .int .i64 0] 28 (0, 0))) ∧ Aside0 (wr.heap[g4]? = some (.cells #[.int .i64 a, .int .i64 b] 63 (0, 0))) ∧ Aside0 (Below w.heap.size w wr)) (fun vi _ => 10 - (intOf vi).toNat)
  case atStart => exact ⟨0, 0, 0, by omega, rfl, ⟨by unfold PairAt; simp [hexVal]⟩, HX2b, HX4, HW4⟩
  case round =>
    obtain ⟨k, a, b, hk, rfl, HA, HY2, HY4, HWr⟩ := hrel
    have hcz0 : wr.cell? ⟨g2, 0, none⟩ = some (.int .i64 0) := (blk_cell HY2.out 0).trans rfl
    have hcz1 : wr.cell? ⟨g2, 1, none⟩ = some (.int .i64 0) := (blk_cell HY2.out 1).trans rfl
    have hfz0 := blk_frozen HY2.out 0
    have hfz1 := blk_frozen HY2.out 1
    have hna : wr.cell? ⟨g4, 0, none⟩ = some (.int .i64 a) := (blk_cell HY4.out 0).trans rfl
    have hnb : wr.cell? ⟨g4, 1, none⟩ = some (.int .i64 b) := (blk_cell HY4.out 1).trans rfl
    have hfa := blk_frozen HY4.out 0
    have hfb := blk_frozen HY4.out 1
    have hne := HNE.out
    have hne2 := Ne.symm HNE.out
    by_cases hlt : k < 10
    · have hks : k < s.size := by have := HS.out; omega
      obtain ⟨c, hc⟩ : ∃ c, bt s (k : Int) = c := ⟨_, rfl⟩
      have hbk : ((s[k]'hks).toNat : Int) = c := by rw [← hc]; exact bt_at s (k : Int) hks
      have HC := Aside0.mk (show (bytesOf s).getD k 0 = c by rw [← hc, ← rd_bytesOf]; unfold rd; rw [Int.toNat_natCast])
      clear hc
      cases hd : digV c with
      | none =>
        have HH := Aside0.mk (show r1 = 0 ∧ r2 = 0 ∧ r3 = 4 by
          have h1 := HA.out.bad HSL.out hlt HC.out hd
          rw [HP.out] at h1
          injection h1 with h1 h2
          injection h2 with h2 h3
          exact ⟨h1, h2, h3⟩)
        go_wp2_with (first | (go_at_call 35; (with_reducible refine (digit_no c hd _).mono ?_); rintro e w1 ⟨rfl, ⟨m1, rfl⟩⟩))
        refine bodyPost_ret (results_ct rfl _ _ g2 28 #[.int .i64 0, .int .i64 0] (0, 0) _ rfl (by (with_reducible repeat (first | refine blk_drewN ?_ _ | refine blk_drew ?_ | refine blk_alloc ?_ _)); refine blk_put (cs := #[.int .i64 0, .int .i64 0]) ?_ 1 _ rfl; (with_reducible repeat (first | refine blk_drewN ?_ _ | refine blk_drew ?_ | refine blk_alloc ?_ _)); refine blk_put (cs := #[.int .i64 0, .int .i64 0]) ?_ 0 _ rfl; (with_reducible repeat (first | refine blk_drewN ?_ _ | refine blk_drew ?_ | refine blk_alloc ?_ _)); exact HY2.out) Try.underlying28 rfl (by kernel_rfl)) rfl ?_
        exact ⟨by first | rfl | (rw [HH.out.1, HH.out.2.1, HH.out.2.2]; rfl), by repeat (first | (with_reducible first | exact HWr.out | apply below_alloc | apply pw_below_drewN | apply below_drew1 | refine below_set ?_ HG2.out) | exact HWr.out)⟩
      | some d =>
        have hdr := digV_range hd
        have HDR := Aside0.mk hdr
        have har := HA.out.2.2.1
        have hbr := HA.out.2.2.2
        have h5 := pow_five (min k 5) (Nat.min_le_right _ _)
        have h5b := pow_five (k - 5) (by omega)
        have ha0 : 0 ≤ a := har.1
        have ha1 : a < 1048576 := by omega
        have hb0 : 0 ≤ b := hbr.1
        have hb1 : b < 1048576 := by omega
        clear har hbr h5 h5b
        by_cases h5 : k < 5
        · have hq : (k : Int) / 5 = 0 := by omega
          have hor := join_hex a d ha0 ha1 hdr.1 hdr.2
          have HN := Aside0.mk (HA.out.left HSL.out h5 HC.out hd)
          clear hdr hb0 hb1
          go_wp2_with (first | (go_at_call 35; (with_reducible refine (digit_yes c d hd _).mono ?_); rintro e w1 ⟨rfl, ⟨m1, rfl⟩⟩))
          exact ⟨⟨k + 1, a * 16 + d, b, by omega, by go_num, HN, ⟨by (with_reducible repeat (first | refine blk_drewN ?_ _ | refine blk_drew ?_ | refine blk_alloc ?_ _)); refine blk_far ?_ hne _; (with_reducible repeat (first | refine blk_drewN ?_ _ | refine blk_drew ?_ | refine blk_alloc ?_ _)); exact HY2.out⟩, ⟨by (with_reducible repeat (first | refine blk_drewN ?_ _ | refine blk_drew ?_ | refine blk_alloc ?_ _)); refine blk_put (cs := #[.int .i64 a, .int .i64 b]) ?_ 0 _ rfl; (with_reducible repeat (first | refine blk_drewN ?_ _ | refine blk_drew ?_ | refine blk_alloc ?_ _)); exact HY4.out⟩, ⟨by repeat (first | (with_reducible first | exact HWr.out | apply below_alloc | apply pw_below_drewN | apply below_drew1 | refine below_set ?_ HG4.out) | exact HWr.out)⟩⟩, by simp [intOf]; omega⟩
        · have hq : (k : Int) / 5 = 1 := by omega
          have hor := join_hex b d hb0 hb1 hdr.1 hdr.2
          have HN := Aside0.mk (HA.out.right HSL.out (by omega) hlt HC.out hd)
          clear hdr ha0 ha1
          go_wp2_with (first | (go_at_call 35; (with_reducible refine (digit_yes c d hd _).mono ?_); rintro e w1 ⟨rfl, ⟨m1, rfl⟩⟩))
          exact ⟨⟨k + 1, a, b * 16 + d, by omega, by go_num, HN, ⟨by (with_reducible repeat (first | refine blk_drewN ?_ _ | refine blk_drew ?_ | refine blk_alloc ?_ _)); refine blk_far ?_ hne _; (with_reducible repeat (first | refine blk_drewN ?_ _ | refine blk_drew ?_ | refine blk_alloc ?_ _)); exact HY2.out⟩, ⟨by (with_reducible repeat (first | refine blk_drewN ?_ _ | refine blk_drew ?_ | refine blk_alloc ?_ _)); refine blk_put (cs := #[.int .i64 a, .int .i64 b]) ?_ 1 _ rfl; (with_reducible repeat (first | refine blk_drewN ?_ _ | refine blk_drew ?_ | refine blk_alloc ?_ _)); exact HY4.out⟩, ⟨by repeat (first | (with_reducible first | exact HWr.out | apply below_alloc | apply pw_below_drewN | apply below_drew1 | refine below_set ?_ HG4.out) | exact HWr.out)⟩⟩, by simp [intOf]; omega⟩
    · have hk10 : k = 10 := by omega
      subst hk10
      have hp := HA.out.last HSL.out
      have ht2 := HP.out.symm.trans hp
      clear hcz0 hcz1 hfz0 hfz1
      cases hr : rightB a b
      · rw [if_neg (by rw [hr]; decide)] at ht2
        have HCK := Aside0.mk (show tag_Check.f a b = some 2 by rw [check_some, hr]; rfl)
        have HH := Aside0.mk (show r1 = 0 ∧ r2 = 0 ∧ r3 = 4 by
          injection ht2 with h1 h2
          injection h2 with h2 h3
          exact ⟨h1, h2, h3⟩)
        clear ht2 hp hr
        go_wp2_with (first | ((with_reducible refine gate_dst (N := 8) rfl ?_); refine box_event ?hg (N := 8) ?hd (cs := #[.int .i64 0, .int .i64 0]) (t := 28) ?hr ?_; (case hd => rfl); (case hg => rfl); (case hr => first | (go_simp; done) | (go_simp; rfl)); intro g8 hg w8 hbox hb; have HZ2 := Aside0.mk (blk_below HY2.out hb); have HNE8 := Aside0.mk (show g2 ≠ g8 by have := blk_lt HY2.out; omega); have HG8 := Aside0.mk (show w.heap.size ≤ g8 by rw [hg]; exact HWr.out.size); have HZW := Aside0.mk (below_step HWr.out hb); have HZ8 := Aside0.mk hbox; clear hb hbox hg; have hkz0 : w8.cell? ⟨g8, 0, none⟩ = some (.int .i64 0) := (blk_cell HZ8.out 0).trans rfl; have hkz1 : w8.cell? ⟨g8, 1, none⟩ = some (.int .i64 0) := (blk_cell HZ8.out 1).trans rfl; have hkf0 := blk_frozen HZ8.out 0; have hkf1 := blk_frozen HZ8.out 1) | (go_at_call 18; (with_reducible refine (tag_Check.calls a b 2 _ HCK.out).mono ?_); rintro e w9 ⟨rfl, hb⟩; have HU2 := Aside0.mk (blk_below (g := g2) (o := .cells #[.int .i64 0, .int .i64 0] 28 (0, 0)) (blk_far (blk_far HZ2.out HNE8.out _) HNE8.out _) hb); have HU8 := Aside0.mk (blk_below (g := g8) (o := .cells #[.int .i64 a, .int .i64 b] 28 (0, 0)) (blk_put (blk_put HZ8.out 0 _ rfl) 1 _ rfl) hb); have HUW := Aside0.mk (below_step (by refine below_set ?_ HG8.out; refine below_set ?_ HG8.out; exact HZW.out) hb); clear hb; have huz0 : w9.cell? ⟨g2, 0, none⟩ = some (.int .i64 0) := (blk_cell HU2.out 0).trans rfl; have huz1 : w9.cell? ⟨g2, 1, none⟩ = some (.int .i64 0) := (blk_cell HU2.out 1).trans rfl; have huf0 := blk_frozen HU2.out 0; have huf1 := blk_frozen HU2.out 1; have hu80 : w9.cell? ⟨g8, 0, none⟩ = some (.int .i64 a) := (blk_cell HU8.out 0).trans rfl; have hu81 : w9.cell? ⟨g8, 1, none⟩ = some (.int .i64 b) := (blk_cell HU8.out 1).trans rfl))
        refine bodyPost_ret (results_ct rfl _ _ g2 28 #[.int .i64 0, .int .i64 0] (0, 0) _ rfl (by (with_reducible repeat (first | refine blk_drewN ?_ _ | refine blk_drew ?_ | refine blk_alloc ?_ _)); refine blk_put (cs := #[.int .i64 0, .int .i64 0]) ?_ 1 _ rfl; (with_reducible repeat (first | refine blk_drewN ?_ _ | refine blk_drew ?_ | refine blk_alloc ?_ _)); refine blk_put (cs := #[.int .i64 0, .int .i64 0]) ?_ 0 _ rfl; (with_reducible repeat (first | refine blk_drewN ?_ _ | refine blk_drew ?_ | refine blk_alloc ?_ _)); exact HU2.out) Try.underlying28 rfl (by kernel_rfl)) rfl ?_
        exact ⟨by first | rfl | (rw [HH.out.1, HH.out.2.1, HH.out.2.2]; rfl), by repeat (first | (with_reducible first | exact HUW.out | apply below_alloc | apply pw_below_drewN | apply below_drew1 | refine below_set ?_ HG2.out) | exact HUW.out)⟩
      · rw [if_pos hr] at ht2
        have HCK := Aside0.mk (show tag_Check.f a b = some 0 by rw [check_some, hr]; rfl)
        have HH := Aside0.mk (show r1 = a ∧ r2 = b ∧ r3 = 0 by
          injection ht2 with h1 h2
          injection h2 with h2 h3
          exact ⟨h1, h2, h3⟩)
        clear ht2 hp hr
        go_wp2_with (first | ((with_reducible refine gate_dst (N := 8) rfl ?_); refine box_event ?hg (N := 8) ?hd (cs := #[.int .i64 0, .int .i64 0]) (t := 28) ?hr ?_; (case hd => rfl); (case hg => rfl); (case hr => first | (go_simp; done) | (go_simp; rfl)); intro g8 hg w8 hbox hb; have HZ2 := Aside0.mk (blk_below HY2.out hb); have HNE8 := Aside0.mk (show g2 ≠ g8 by have := blk_lt HY2.out; omega); have HG8 := Aside0.mk (show w.heap.size ≤ g8 by rw [hg]; exact HWr.out.size); have HZW := Aside0.mk (below_step HWr.out hb); have HZ8 := Aside0.mk hbox; clear hb hbox hg; have hkz0 : w8.cell? ⟨g8, 0, none⟩ = some (.int .i64 0) := (blk_cell HZ8.out 0).trans rfl; have hkz1 : w8.cell? ⟨g8, 1, none⟩ = some (.int .i64 0) := (blk_cell HZ8.out 1).trans rfl; have hkf0 := blk_frozen HZ8.out 0; have hkf1 := blk_frozen HZ8.out 1) | (go_at_call 18; (with_reducible refine (tag_Check.calls a b 0 _ HCK.out).mono ?_); rintro e w9 ⟨rfl, hb⟩; have HU2 := Aside0.mk (blk_below (g := g2) (o := .cells #[.int .i64 0, .int .i64 0] 28 (0, 0)) (blk_far (blk_far HZ2.out HNE8.out _) HNE8.out _) hb); have HU8 := Aside0.mk (blk_below (g := g8) (o := .cells #[.int .i64 a, .int .i64 b] 28 (0, 0)) (blk_put (blk_put HZ8.out 0 _ rfl) 1 _ rfl) hb); have HUW := Aside0.mk (below_step (by refine below_set ?_ HG8.out; refine below_set ?_ HG8.out; exact HZW.out) hb); clear hb; have huz0 : w9.cell? ⟨g2, 0, none⟩ = some (.int .i64 0) := (blk_cell HU2.out 0).trans rfl; have huz1 : w9.cell? ⟨g2, 1, none⟩ = some (.int .i64 0) := (blk_cell HU2.out 1).trans rfl; have huf0 := blk_frozen HU2.out 0; have huf1 := blk_frozen HU2.out 1; have hu80 : w9.cell? ⟨g8, 0, none⟩ = some (.int .i64 a) := (blk_cell HU8.out 0).trans rfl; have hu81 : w9.cell? ⟨g8, 1, none⟩ = some (.int .i64 b) := (blk_cell HU8.out 1).trans rfl))
        refine bodyPost_ret (results_ct rfl _ _ g2 28 #[.int .i64 a, .int .i64 b] (0, 0) _ rfl (by (with_reducible repeat (first | refine blk_drewN ?_ _ | refine blk_drew ?_ | refine blk_alloc ?_ _)); refine blk_put (cs := #[.int .i64 a, .int .i64 0]) ?_ 1 _ rfl; (with_reducible repeat (first | refine blk_drewN ?_ _ | refine blk_drew ?_ | refine blk_alloc ?_ _)); refine blk_put (cs := #[.int .i64 0, .int .i64 0]) ?_ 0 _ rfl; (with_reducible repeat (first | refine blk_drewN ?_ _ | refine blk_drew ?_ | refine blk_alloc ?_ _)); exact HU2.out) Try.underlying28 rfl (by kernel_rfl)) rfl ?_
        exact ⟨by first | rfl | (rw [HH.out.1, HH.out.2.1, HH.out.2.2]; rfl), by repeat (first | (with_reducible first | exact HUW.out | apply below_alloc | apply pw_below_drewN | apply below_drew1 | refine below_set ?_ HG2.out) | exact HUW.out)⟩
theorem tag_Parse.calls (s : ByteArray) (r1 r2 r3 : Int) (w : World) (h : tag_Parse.f s = some (r1, r2, r3)) :
    Calls Try.prog 22 #[.string s] w fun e w' => e = .returned (.tuple #[.agg #[.int .i64 r1, .int .i64 r2], .int .i64 r3]) ∧ Below w.heap.size w w' := by
  unfold tag_Parse.f at h
  by_cases hs : s.size = 10
  · rw [if_pos hs] at h
    exact parse_ten s hs r1 r2 r3 (Option.some.inj h) w
  · rw [if_neg hs] at h
    simp only [Option.some.injEq, Prod.mk.injEq] at h
    obtain ⟨rfl, rfl, rfl⟩ := h
    exact parse_short s hs w
end Go.Proofs.Ytfkimpbgiiakcaa.A
namespace Go.Proofs.Ytfkimpbgiiakcaa.A
open Go.RowKit Go.Proofs.YtfkimpbgiiakcaaW.PrintWords Go.Proofs.YtfkimpbgiiakcaaW.PrintLast Go.Proofs.YtfkimpbgiiakcaaW.PrintMore
set_option linter.unusedVariables false
theorem lit_C {w : World} {g : Nat} {cs : Array Value} {t : TypeId} {fr : Nat × Nat} {xs : List Int} (h : w.heap[g]? = some (.cells cs t fr)) (hc : cs.toList = xs.map (Value.int .u8)) (hl : xs.length ≤ 9223372036854775807) : Kd.C (Kd.int .u8) w (some ⟨g, 0, none⟩) xs.length xs := by
  refine Kd.C_of_reads (d := (0 : Int)) ⟨rfl, hl, fun _ => ⟨_, rfl, fun j hj => ?_⟩⟩
  rw [add_plain, cell_of_row w g j cs t fr h, ← Array.getElem?_toList, hc, List.getElem?_map, List.getElem?_eq_getElem hj, List.getD_eq_getElem?_getD, List.getElem?_eq_getElem hj]
  rfl
theorem new_blk (w : World) (o : Obj) : (w.alloc o).heap[w.heap.size]? = some o := heap_alloc_new w o
theorem ex_ab (w : World) (fr : Nat × Nat) : Calls Try.prog 14 #[.slice (some ⟨w.heap.size, 0, none⟩) 2 2] (w.alloc (.cells #[.int .u8 97, .int .u8 98] 5 fr)) fun e w' => e = .returned (.agg #[.int .i64 75, .int .i64 831]) ∧ Below w.heap.size w w' :=
  (tag_Of.calls (some ⟨w.heap.size, 0, none⟩) 2 [97, 98] 75 831 _ (lit_C (new_blk w _) rfl (by decide)) (by decide) (by decide +kernel)).mono fun e w' ⟨h, hb⟩ => ⟨h, below_then (below_alloc (Below.refl _ _) _) (by simp) hb⟩
theorem ex_a (w : World) (fr : Nat × Nat) : Calls Try.prog 14 #[.slice (some ⟨w.heap.size, 0, none⟩) 1 1] (w.alloc (.cells #[.int .u8 97] 5 fr)) fun e w' => e = .returned (.agg #[.int .i64 98, .int .i64 159]) ∧ Below w.heap.size w w' :=
  (tag_Of.calls (some ⟨w.heap.size, 0, none⟩) 1 [97] 98 159 _ (lit_C (new_blk w _) rfl (by decide)) (by decide) (by decide +kernel)).mono fun e w' ⟨h, hb⟩ => ⟨h, below_then (below_alloc (Below.refl _ _) _) (by simp) hb⟩
theorem ex_none (w : World) : Calls Try.prog 14 #[.slice none 0 0] w fun e w' => e = .returned (.agg #[.int .i64 0, .int .i64 0]) ∧ Below w.heap.size w w' :=
  tag_Of.calls none 0 [] 0 0 _ (Kd.C_nil _ _) (by decide) (by decide +kernel)
theorem ex_sum (w : World) (fr : Nat × Nat) : Calls Try.prog 11 #[.slice (some ⟨w.heap.size, 0, none⟩) 9 9] (w.alloc (.cells #[.int .u8 49, .int .u8 50, .int .u8 51, .int .u8 52, .int .u8 53, .int .u8 54, .int .u8 55, .int .u8 56, .int .u8 57] 5 fr)) fun e w' => e = .returned (.int .i64 3808858755) ∧ Below w.heap.size w w' :=
  (tag_Sum.calls (some ⟨w.heap.size, 0, none⟩) 9 [49, 50, 51, 52, 53, 54, 55, 56, 57] 3808858755 _ (lit_C (new_blk w _) rfl (by decide)) (by decide) (by decide +kernel)).mono fun e w' ⟨h, hb⟩ => ⟨h, below_then (below_alloc (Below.refl _ _) _) (by simp) hb⟩
theorem ex_text (w : World) : Calls Try.prog 20 #[.agg #[.int .i64 75, .int .i64 831]] w fun e w' => e = .returned (.tuple #[.string ⟨#[48, 48, 48, 52, 98, 48, 48, 51, 51, 102]⟩, .int .i64 0]) ∧ Below w.heap.size w w' :=
  tag_Text.calls 75 831 _ _ _ (by decide +kernel)
set_option maxHeartbeats 1000000 in
set_option maxRecDepth 100000 in
theorem lives_calls0 (w : World) : Calls Try.prog 13 #[] w fun e w' => e = .returned (.bool true) ∧ Below w.heap.size w w' := by
  have kc := fun (w : World) (C : Array Value) (n c : Nat) => Lib.run_convert_bytes_const (P := Try.prog) w 22 5 C n c Try.underlying22 Try.underlying5
  have q1 : ∀ W : World, (binOp .eql 28 (.agg #[.int .i64 0, .int .i64 0]) (.agg #[.int .i64 0, .int .i64 0])).run Try.prog W = .ok (.bool true) W := fun W => by kernel_rfl
  have q2 : ∀ W : World, (binOp .eql 28 (.agg #[.int .i64 98, .int .i64 159]) (.agg #[.int .i64 98, .int .i64 159])).run Try.prog W = .ok (.bool true) W := fun W => by kernel_rfl
  have q3 : ∀ W : World, (binOp .eql 28 (.agg #[.int .i64 75, .int .i64 831]) (.agg #[.int .i64 75, .int .i64 831])).run Try.prog W = .ok (.bool true) W := fun W => by kernel_rfl
  have HB := Aside0.mk (Below.refl w.heap.size w)
  go_enter Try.func13, Try.ntmps13
  go_wp2_with (first | (go_at_call 14; (with_reducible refine (ex_ab _ _).mono ?_); rintro e w1 ⟨rfl, hb⟩; have n_ := Aside0.mk (below_step HB.out hb); clear HB hb; have HB := n_; clear n_) | (go_at_call 20; (with_reducible refine (ex_text _).mono ?_); rintro e w2 ⟨rfl, hb⟩; have n_ := Aside0.mk (below_step HB.out hb); clear HB hb; have HB := n_; clear n_) | (go_at_call 11; (with_reducible refine (ex_sum _ _).mono ?_); rintro e w3 ⟨rfl, hb⟩; have n_ := Aside0.mk (below_step HB.out hb); clear HB hb; have HB := n_; clear n_) | (go_at_call 14; (with_reducible refine (ex_none _).mono ?_); rintro e w4 ⟨rfl, hb⟩; have n_ := Aside0.mk (below_step HB.out hb); clear HB hb; have HB := n_; clear n_) | (go_at_call 14; (with_reducible refine (ex_a _ _).mono ?_); rintro e w5 ⟨rfl, hb⟩; have n_ := Aside0.mk (below_step HB.out hb); clear HB hb; have HB := n_; clear n_))
  go_ret
  exact ⟨rfl, HB.out⟩
def ambrylaw03_lives.f : Option Bool := some true
theorem ambrylaw03_lives.calls (r : Bool) (w : World) (h : ambrylaw03_lives.f = some r) : Calls Try.prog 13 #[] w fun e w' => e = .returned (.bool r) ∧ Below w.heap.size w w' := by
  obtain rfl := Option.some.inj h
  exact lives_calls0 w
end Go.Proofs.Ytfkimpbgiiakcaa.A
