/- The sum of bytes; a tag's check; powers; tags joined. -/
import Derived.Test.YtfkimpbgiiakcaaProg
import Derived.Below
import Derived.Deep.Draws
import Derived.Deep.AppendLies
import Derived.Maps.AppendAt
import Derived.OwnWalk
import Derived.Laws.BytesArg
import Derived.Laws.MakeOwn
import Derived.Laws.OwnMore
import Derived.Deep.OwnRows
import Derived.Tactics
import Derived.Lib.ConvBytes
import Derived.Laws.Slices
import Derived.WalkKit
import Derived.KernelRfl
import Derived.RowKit3
import Derived.Deep.LoopGhost
import Derived.Deep.QuietTactic
import Derived.BigQuiet
import Derived.WideLaws
import Derived.Deep.DeepCutAuto
import Derived.Deep.CutBlock
import Derived.Deep.RegionHeld3
import Derived.Laws.Rows
import Derived.Lib.AppendStr
import Derived.ArgAppend
import Derived.Laws.IdiomCopy
import Derived.OrdersHeld
import Derived.Laws.BitsLemmas
import Derived.RowKit
import Derived.Laws.Cover1
import Derived.Deep.RegionWith
import Derived.Deep.RegionLaw
import Derived.WalkMore
import Derived.ScopeJumps
import Derived.Test.YtfkimpbgiiakcaaWWords
import Derived.Test.YtfkimpbgiiakcaaWLast
import Derived.Test.YtfkimpbgiiakcaaWTab
import Derived.Test.YtfkimpbgiiakcaaWFour
import Derived.Test.YtfkimpbgiiakcaaWQPut
import Derived.Test.YtfkimpbgiiakcaaWApart
import Derived.Test.YtfkimpbgiiakcaaWArr
import Derived.Test.YtfkimpbgiiakcaaWZeros
import Derived.Test.YtfkimpbgiiakcaaWFoot
import Derived.Test.YtfkimpbgiiakcaaWKept
import Derived.Test.YtfkimpbgiiakcaaWShare
import Derived.Test.YtfkimpbgiiakcaaWN
import Derived.Test.YtfkimpbgiiakcaaWFootNe
import Derived.Test.YtfkimpbgiiakcaaWAt
import Derived.Test.YtfkimpbgiiakcaaWEqStruct
import Derived.Test.YtfkimpbgiiakcaaWRepsOne
import Derived.Test.YtfkimpbgiiakcaaWInv
import Derived.Test.YtfkimpbgiiakcaaWInvWords
import Derived.Test.YtfkimpbgiiakcaaWGuard
import Derived.Test.YtfkimpbgiiakcaaWNEv
import Derived.Test.YtfkimpbgiiakcaaWMore
import Derived.Deep.DrawnRows
import Derived.Test.YtfkimpbgiiakcaaG3
namespace Go.Proofs.Ytfkimpbgiiakcaa.A
open Go.RowKit Go.Proofs.YtfkimpbgiiakcaaW.PrintWords Go.Proofs.YtfkimpbgiiakcaaW.PrintLast Go.Proofs.YtfkimpbgiiakcaaW.PrintMore
set_option linter.unusedVariables false
/-- A bit's step. -/
def crcBit (x : Nat) : Nat := if x % 2 = 1 then (x / 2) ^^^ 2197175160 else x / 2
def crcBits : Nat → Nat → Nat
  | 0, x => x
  | j + 1, x => crcBit (crcBits j x)
def crcByte (x : Nat) (c : Int) : Nat := crcBits 8 (x ^^^ c.toNat)
def crcAll (l : List Int) : Nat := l.foldl crcByte 4294967295
theorem crcBit_lt (x : Nat) (h : x < 4294967296) : crcBit x < 4294967296 := by
  unfold crcBit
  split
  · exact Nat.xor_lt_two_pow (n := 32) (by omega) (by decide)
  · omega
theorem crcBits_lt (j x : Nat) (h : x < 4294967296) : crcBits j x < 4294967296 := by
  induction j with
  | zero => exact h
  | succ j ih => exact crcBit_lt _ ih
theorem crcByte_lt (x : Nat) (c : Int) (h : x < 4294967296) (hc : c ≤ 255) : crcByte x c < 4294967296 :=
  crcBits_lt _ _ (Nat.xor_lt_two_pow (n := 32) h (by omega))
theorem crcAll_snoc (l : List Int) (c : Int) : crcAll (l ++ [c]) = crcByte (crcAll l) c := by unfold crcAll; rw [List.foldl_append]; rfl
theorem crcFold_lt (l : List Int) (h : ∀ x ∈ l, 0 ≤ x ∧ x ≤ 255) : ∀ x, x < 4294967296 → l.foldl crcByte x < 4294967296 := by
  induction l with
  | nil => exact fun x hx => hx
  | cons c l ih => exact fun x hx => ih (fun y hy => h y (by simp [hy])) _ (crcByte_lt _ _ hx (h c (by simp)).2)
theorem crcAll_lt (l : List Int) (h : ∀ x ∈ l, 0 ≤ x ∧ x ≤ 255) : crcAll l < 4294967296 := crcFold_lt l h _ (by decide)
theorem crc_bit_int (z : Nat) (h : z < 4294967296) : bits .xor .u32 ((z : Int) / 2) (bits .and .u32 2197175160 (-(bits .and .u32 (z : Int) 1) % 4294967296)) = ((crcBit z : Nat) : Int) := by
  have e0 := u32_and_nat z 1 h (by decide)
  rw [nat_mask1] at e0
  have e0' : bits .and .u32 (z : Int) 1 = ((z % 2 : Nat) : Int) := e0
  have hh : (z : Int) / 2 = ((z / 2 : Nat) : Int) := by omega
  rw [e0', hh]
  unfold crcBit
  by_cases hz : z % 2 = 1
  · rw [if_pos hz, hz]
    have e1 : bits .and .u32 2197175160 (-((1 : Nat) : Int) % 4294967296) = ((2197175160 : Nat) : Int) := by decide +kernel
    rw [e1]
    exact u32_xor_nat (z / 2) 2197175160 (by omega) (by decide)
  · rw [if_neg hz, show z % 2 = 0 by omega]
    have e1 : bits .and .u32 2197175160 (-((0 : Nat) : Int) % 4294967296) = ((0 : Nat) : Int) := by decide +kernel
    rw [e1, u32_xor_nat (z / 2) 0 (by omega) (by decide), Nat.xor_zero]
theorem crc_last (x : Nat) (h : x < 4294967296) : wrap64 (bits .xor .u32 IntKind.u32.max (x : Int)) = ((x ^^^ 4294967295 : Nat) : Int) := by
  have e : IntKind.u32.max = ((4294967295 : Nat) : Int) := by decide
  rw [e, u32_xor_nat 4294967295 x (by decide) h, Nat.xor_comm]
  have hl : x ^^^ 4294967295 < 4294967296 := Nat.xor_lt_two_pow (n := 32) h (by decide)
  unfold wrap64
  omega
def tag_Sum.f (l0 : List Int) : Option Int := if (∀ x ∈ l0, 0 ≤ x ∧ x ≤ 255) ∧ l0.length ≤ 9223372036854775807 then some ((crcAll l0 ^^^ 4294967295 : Nat) : Int) else none
set_option maxHeartbeats 1000000 in
set_option maxRecDepth 100000 in
theorem tag_Sum.calls (A0 : Option Addr) (c0 : Nat) (l0 : List Int) (r : Int) (w : World) (hr0 : Kd.C (Kd.int .u8) w A0 l0.length l0) (hc0 : l0.length ≤ c0) (h : tag_Sum.f l0 = some r) :
    Calls Try.prog 11 #[.slice A0 l0.length c0] w fun e w' => e = .returned (.int .i64 r) ∧ Below w.heap.size w w' := by
  unfold tag_Sum.f at h
  by_cases hc : (∀ x ∈ l0, 0 ≤ x ∧ x ≤ 255) ∧ l0.length ≤ 9223372036854775807
  case neg => rw [if_neg hc] at h; cases h
  rw [if_pos hc] at h
  obtain rfl := Option.some.inj h
  clear h
  have HB := Aside0.mk hc.1
  have hl := hc.2
  have HR := Aside0.mk hr0
  clear hc hr0
  go_enter Try.func11, Try.ntmps11
  go_wp2
  go_loopw [3, 8] (fun vt vi wr => ∃ (k x : Nat), k ≤ l0.length ∧ vi = .int .i64 k ∧ vt = .int .u32 x ∧ Aside0 (crcAll (l0.take k) = x) ∧ Drawn0 w wr) (fun _ vi _ => l0.length - (intOf vi).toNat)
  case atStart => exact ⟨0, _, Nat.zero_le _, rfl, rfl, ⟨rfl⟩, by repeat (first | exact Drawn0.refl _ | apply Drawn0.step)⟩
  case round =>
    obtain ⟨k, x, hk, rfl, rfl, HX, ⟨nd, rfl⟩⟩ := hrel
    have hxl : x < 4294967296 := by
      rw [← HX.out]
      exact crcAll_lt _ (fun y hy => HB.out y (List.mem_of_mem_take hy))
    by_cases hlt : k < l0.length
    · obtain ⟨ad, rfl, hcell⟩ := Kd.at_int HR.out (k : Int) (by omega) (by omega)
      rw [Int.toNat_natCast] at hcell
      have hb : 0 ≤ rd l0 (k : Int) ∧ rd l0 (k : Int) ≤ 255 := HB.out _ (by
        unfold rd
        rw [Int.toNat_natCast, List.getD_eq_getElem?_getD, List.getElem?_eq_getElem hlt]
        exact List.getElem_mem hlt)
      have HS := Aside0.mk (show crcAll (l0.take (k + 1)) = crcByte x (rd l0 (k : Int)) by rw [take_rd l0 k hlt, crcAll_snoc, HX.out])
      obtain ⟨c, hc⟩ : ∃ c : Nat, rd l0 (k : Int) = (c : Int) := ⟨(rd l0 (k : Int)).toNat, by omega⟩
      rw [hc] at hb hcell HS
      have HS2 := Aside0.mk (show crcAll (l0.take (k + 1)) = crcBits 8 (x ^^^ c) from HS.out)
      clear HS
      have hx1 := u32_xor_nat x c hxl (by omega)
      have hc255 : (c : Int) % 4294967296 = (c : Int) := by omega
      have hxl2 : x ^^^ c < 4294967296 := Nat.xor_lt_two_pow (n := 32) hxl (by omega)
      generalize x ^^^ c = y at *
      go_wp2
      go_loopw [3, 16] (fun vt vi wr => ∃ (j z : Nat), j ≤ 8 ∧ vi = .int .i64 j ∧ vt = .int .u32 z ∧ Aside0 (crcBits j y = z) ∧ Drawn0 w wr) (fun _ vi _ => 8 - (intOf vi).toNat)
      case atStart => exact ⟨0, y, Nat.zero_le _, rfl, rfl, ⟨rfl⟩, by repeat (first | exact Drawn0.refl _ | apply Drawn0.step)⟩
      case round =>
        obtain ⟨j, z, hj, rfl, rfl, HZ, ⟨nd2, rfl⟩⟩ := hrel
        have hzl : z < 4294967296 := by rw [← HZ.out]; exact crcBits_lt _ _ hxl2
        by_cases hj8 : j < 8
        · have HN := Aside0.mk (crc_bit_int z hzl)
          have HC := Aside0.mk (show crcBits (j + 1) y = crcBit z by rw [← HZ.out]; rfl)
          go_wp2
          exact ⟨⟨j + 1, _, by omega, by go_num, by rw [HN.out], HC, ⟨⟨_, rfl⟩⟩⟩, by simp [intOf]; omega⟩
        · have hj2 : j = 8 := by omega
          subst hj2
          have HC := Aside0.mk (HS2.out.trans HZ.out)
          go_wp2
          exact ⟨⟨k + 1, z, by omega, by go_num, rfl, HC, ⟨⟨_, rfl⟩⟩⟩, by simp [intOf]; omega⟩
    · have hk2 : k = l0.length := by omega
      subst hk2
      have HX2 := Aside0.mk (show crcAll l0 = x by rw [← HX.out, List.take_length])
      have HL := Aside0.mk (crc_last x hxl)
      go_wp2
      go_ret
      exact ⟨by rw [HX2.out, ← HL.out]; rfl, by repeat (first | exact Below.refl _ _ | apply pw_below_drewN)⟩
end Go.Proofs.Ytfkimpbgiiakcaa.A
namespace Go.Proofs.Ytfkimpbgiiakcaa.A
open Go.RowKit Go.Proofs.YtfkimpbgiiakcaaW.PrintWords Go.Proofs.YtfkimpbgiiakcaaW.PrintLast Go.Proofs.YtfkimpbgiiakcaaW.PrintMore
set_option linter.unusedVariables false
def tag_Check.f (a0_0 a0_1 : Int) : Option Int := if (0 ≤ a0_0 ∧ a0_0 < 1048573) ∧ (0 ≤ a0_1 ∧ a0_1 < 1048573) then some 0 else some 2
set_option maxHeartbeats 1000000 in
set_option maxRecDepth 100000 in
theorem tag_Check.calls (a b : Int) (r : Int) (w : World) (h : tag_Check.f a b = some r) :
    Calls Try.prog 18 #[.agg #[.int .i64 a, .int .i64 b]] w fun e w' => e = .returned (.int .i64 r) ∧ Below w.heap.size w w' := by
  have HF := Aside0.mk h
  clear h
  go_enter Try.func18, Try.ntmps18
  go_wp2
  go_loopw [10] (fun vi wr => ∃ (k : Nat), k ≤ 2 ∧ vi = .int .i64 k ∧ Aside0 (1 ≤ k → 0 ≤ a ∧ a < 1048573) ∧ Aside0 (k = 2 → 0 ≤ b ∧ b < 1048573) ∧ Aside0 (Below w.heap.size w wr)) (fun vi _ => 2 - (intOf vi).toNat)
  case atStart => exact ⟨0, by omega, rfl, ⟨by omega⟩, ⟨by omega⟩, ⟨by repeat (first | exact Below.refl _ _ | apply below_alloc | apply pw_below_drewN)⟩⟩
  case round =>
    obtain ⟨k, hk, rfl, HA, HB, HW⟩ := hrel
    obtain rfl | rfl | rfl : k = 0 ∨ k = 1 ∨ k = 2 := by omega
    · have hi0 : ∀ W : World, (Instr.index 63 (.agg #[.int .i64 a, .int .i64 b]) (.int .i64 0)).run Try.prog W = .ok (.int .i64 a) W := fun W => by kernel_rfl
      by_cases ha : 0 ≤ a ∧ a < 1048573
      · have hA := ha.1
        have hA2 := ha.2
        have HA2 := Aside0.mk ha
        clear ha
        go_wp2
        exact ⟨⟨1, by omega, rfl, ⟨fun _ => HA2.out⟩, ⟨by omega⟩, HW⟩, by simp [intOf]⟩
      · have HR := Aside0.mk (show r = 2 by
          have h := HF.out
          unfold tag_Check.f at h
          rw [if_neg (fun q => ha q.1)] at h
          exact (Option.some.inj h).symm)
        by_cases hn : a < 0
        · clear ha
          go_wp2
          go_ret
          exact ⟨by rw [HR.out]; rfl, HW.out⟩
        · have hA : 0 ≤ a := by omega
          have hA2 : 1048573 ≤ a := by omega
          clear ha hn
          go_wp2
          go_ret
          exact ⟨by rw [HR.out]; rfl, HW.out⟩
    · have hi0 : ∀ W : World, (Instr.index 63 (.agg #[.int .i64 a, .int .i64 b]) (.int .i64 1)).run Try.prog W = .ok (.int .i64 b) W := fun W => by kernel_rfl
      by_cases ha : 0 ≤ b ∧ b < 1048573
      · have hA := ha.1
        have hA2 := ha.2
        have HA2 := Aside0.mk ha
        clear ha
        go_wp2
        exact ⟨⟨2, by omega, rfl, ⟨fun _ => HA.out (by omega)⟩, ⟨fun _ => HA2.out⟩, HW⟩, by simp [intOf]⟩
      · have HR := Aside0.mk (show r = 2 by
          have h := HF.out
          unfold tag_Check.f at h
          rw [if_neg (fun q => ha q.2)] at h
          exact (Option.some.inj h).symm)
        by_cases hn : b < 0
        · clear ha
          go_wp2
          go_ret
          exact ⟨by rw [HR.out]; rfl, HW.out⟩
        · have hA : 0 ≤ b := by omega
          have hA2 : 1048573 ≤ b := by omega
          clear ha hn
          go_wp2
          go_ret
          exact ⟨by rw [HR.out]; rfl, HW.out⟩
    · have HR := Aside0.mk (show r = 0 by
          have h := HF.out
          unfold tag_Check.f at h
          rw [if_pos ⟨HA.out (by omega), HB.out rfl⟩] at h
          exact (Option.some.inj h).symm)
      go_wp2
      go_ret
      exact ⟨by rw [HR.out]; rfl, HW.out⟩
end Go.Proofs.Ytfkimpbgiiakcaa.A
namespace Go.Proofs.Ytfkimpbgiiakcaa.A
open Go.RowKit Go.Proofs.YtfkimpbgiiakcaaW.PrintWords Go.Proofs.YtfkimpbgiiakcaaW.PrintLast Go.Proofs.YtfkimpbgiiakcaaW.PrintMore
set_option linter.unusedVariables false
/-- Two tags' product. -/
def cTimes (a b : Int × Int) : Int × Int := ((a.1 * b.1 - a.2 * b.2) % 1048573, (a.1 * b.2 + a.2 * b.1) % 1048573)
def powGo (n : Nat) (p b : Int × Int) : Int × Int := if n = 0 then p else powGo (n / 2) (if n % 2 = 1 then cTimes p b else p) (cTimes b b)
termination_by n
decreasing_by omega
def InP (t : Int × Int) : Prop := (0 ≤ t.1 ∧ t.1 < 1048573) ∧ (0 ≤ t.2 ∧ t.2 < 1048573)
theorem cTimes_in (a b : Int × Int) : InP (cTimes a b) := by unfold cTimes InP; exact ⟨⟨by omega, by omega⟩, ⟨by omega, by omega⟩⟩
theorem InP.lt {t : Int × Int} (h : InP t) : t.1.natAbs < 2 ^ 21 ∧ t.2.natAbs < 2 ^ 21 := by unfold InP at h; omega
theorem powGo_in (n : Nat) : ∀ p b, InP p → InP (powGo n p b) := by
  induction n using Nat.strongRecOn with
  | _ n ih =>
    intro p b hp
    rw [powGo]
    by_cases h : n = 0
    · rw [if_pos h]; exact hp
    · rw [if_neg h]
      refine ih _ (by omega) _ _ ?_
      split
      · exact cTimes_in _ _
      · exact hp
def powOf (n : Nat) : Int × Int := powGo n (1, 0) (3, 2)
theorem powOf_in (n : Nat) : InP (powOf n) := powGo_in n _ _ (by unfold InP; decide)
def CIn (v : Value) (t : Int × Int) : Prop := CVal v t.1 t.2 ∧ InP t
theorem odd_and (n : Nat) (h : n < 9223372036854775808) : bits .and .i64 (n : Int) 1 = ((n % 2 : Nat) : Int) := by
  have hw : ∀ x : Int, 0 ≤ x → x < 2 ^ 63 → IntKind.i64.wrap x = x := fun x h0 h1 => by
    rw [IntKind.wrap_i64]
    omega
  have h1 := (bits_nat .i64 63 (by decide) hw n 1 h (by decide)).1
  rw [nat_mask1] at h1
  exact h1
set_option maxHeartbeats 1000000 in
set_option maxRecDepth 100000 in
theorem power_calls (n : Nat) (hn : n ≤ 9223372036854775807) (w : World) :
    Calls Try.prog 30 #[.int .i64 n] w fun e w' => CRes (powOf n).1 (powOf n).2 e ∧ Drawn0 w w' := by
  go_enter Try.func30, Try.ntmps30
  go_wp2
  go_loopw [0, 3, 4] (fun vn vp vb wr => ∃ (m : Nat) (p b : Int × Int), m ≤ n ∧ vn = .int .i64 m ∧ Aside0 (CIn vp p) ∧ Aside0 (CIn vb b) ∧ Aside0 (powGo m p b = powOf n) ∧ Drawn0 w wr) (fun vn _ _ _ => (intOf vn).toNat)
  case atStart => exact ⟨n, (1, 0), (3, 2), Nat.le_refl _, rfl, ⟨⟨_, _, rfl, flw_one, flw_zero⟩, by unfold InP; decide⟩, ⟨⟨_, _, rfl, flw_three, flw_two⟩, by unfold InP; decide⟩, ⟨rfl⟩, by repeat (first | exact Drawn0.refl _ | apply Drawn0.step)⟩
  case round =>
    obtain ⟨m, p, b, hm, rfl, HP, HB, HG, ⟨nd, rfl⟩⟩ := hrel
    obtain ⟨⟨x, y, rfl, hx, hy⟩, hpi⟩ := HP.out
    obtain ⟨⟨x', y', rfl, hx', hy'⟩, hbi⟩ := HB.out
    have hpl := hpi.lt
    have hbl := hbi.lt
    have HT1 := Aside0.mk (fun W => times_calls x y x' y' _ _ _ _ hx hy hx' hy' hpl.1 hpl.2 hbl.1 hbl.2 W)
    have HT2 := Aside0.mk (fun W => times_calls x' y' x' y' _ _ _ _ hx' hy' hx' hy' hbl.1 hbl.2 hbl.1 hbl.2 W)
    have HXY := Aside0.mk (And.intro (And.intro hx hy) hpi)
    clear hpl hbl hx hy hx' hy' hpi hbi HP HB
    by_cases h0 : m = 0
    · subst h0
      have HG2 := Aside0.mk (show p = powOf n by have h := HG.out; rw [powGo, if_pos rfl] at h; exact h)
      go_wp2
      go_ret
      exact ⟨CRes.mk HXY.out.1.1 HXY.out.1.2 (by rw [HG2.out]) (by rw [HG2.out]), ⟨⟨_, rfl⟩⟩⟩
    · have hm1 : 1 ≤ m := by omega
      have ho := odd_and m (by omega)
      have hsh : Op.shift .shr .i64 (m : Int) .u64 1 = pure (.int .i64 ((m / 2 : Nat) : Int)) := by
        rw [shift_shr .i64 .u64 m 1 (by decide) (by decide)]
        congr 2
      by_cases hodd : m % 2 = 1
      · have HG2 := Aside0.mk (show powGo (m / 2) (cTimes p b) (cTimes b b) = powOf n by have h := HG.out; rw [powGo, if_neg h0, if_pos hodd] at h; exact h)
        rw [hodd] at ho
        clear h0 hodd
        go_wp2_with (first | (go_at_call 24; (with_reducible refine (HT1.out _).mono ?_); rintro e w1 ⟨⟨x1, y1, rfl, hx1, hy1⟩, ⟨n1, rfl⟩⟩; have HZ1 := Aside0.mk (And.intro hx1 hy1); clear hx1 hy1) | (go_at_call 24; (with_reducible refine (HT2.out _).mono ?_); rintro e w1 ⟨⟨x2, y2, rfl, hx2, hy2⟩, ⟨n2, rfl⟩⟩; have HZ2 := Aside0.mk (And.intro hx2 hy2); clear hx2 hy2))
        go_roundw
        case rel => exact ⟨m / 2, cTimes p b, cTimes b b, by omega, by go_num, ⟨⟨_, _, rfl, HZ1.out.1, HZ1.out.2⟩, cTimes_in _ _⟩, ⟨⟨_, _, rfl, HZ2.out.1, HZ2.out.2⟩, cTimes_in _ _⟩, HG2, by repeat (first | exact Drawn0.refl _ | apply Drawn0.step)⟩
        case measure => simp [intOf]; omega
      · have HG2 := Aside0.mk (show powGo (m / 2) p (cTimes b b) = powOf n by have h := HG.out; rw [powGo, if_neg h0, if_neg hodd] at h; exact h)
        rw [show m % 2 = 0 by omega] at ho
        clear h0 hodd
        go_wp2_with (first | (go_at_call 24; (with_reducible refine (HT2.out _).mono ?_); rintro e w1 ⟨⟨x2, y2, rfl, hx2, hy2⟩, ⟨n2, rfl⟩⟩; have HZ2 := Aside0.mk (And.intro hx2 hy2); clear hx2 hy2))
        go_roundw
        case rel => exact ⟨m / 2, p, cTimes b b, by omega, by go_num, ⟨⟨_, _, rfl, HXY.out.1.1, HXY.out.1.2⟩, HXY.out.2⟩, ⟨⟨_, _, rfl, HZ2.out.1, HZ2.out.2⟩, cTimes_in _ _⟩, HG2, by repeat (first | exact Drawn0.refl _ | apply Drawn0.step)⟩
        case measure => simp [intOf]; omega
end Go.Proofs.Ytfkimpbgiiakcaa.A
namespace Go.Proofs.Ytfkimpbgiiakcaa.A
open Go.RowKit Go.Proofs.YtfkimpbgiiakcaaW.PrintWords Go.Proofs.YtfkimpbgiiakcaaW.PrintLast Go.Proofs.YtfkimpbgiiakcaaW.PrintMore
set_option linter.unusedVariables false
def cPlus (a b : Int × Int) : Int × Int := ((a.1 + b.1) % 1048573, (a.2 + b.2) % 1048573)
def joinOf (a b : Int × Int) (n : Nat) : Int × Int := cPlus (cTimes a (powOf n)) b
def rightB (a b : Int) : Bool := decide ((0 ≤ a ∧ a < 1048573) ∧ (0 ≤ b ∧ b < 1048573))
def tag_Join.f (a0_0 a0_1 a1_0 a1_1 a2 : Int) : Option (Int × Int × Int) :=
  if rightB a0_0 a0_1 = true ∧ rightB a1_0 a1_1 = true ∧ 0 ≤ a2 then (if a2 ≤ 9223372036854775807 then some ((joinOf (a0_0, a0_1) (a1_0, a1_1) a2.toNat).1, (joinOf (a0_0, a0_1) (a1_0, a1_1) a2.toNat).2, 0) else none) else some (0, 0, 2)
theorem cPlus_in (a b : Int × Int) : InP (cPlus a b) := by unfold cPlus InP; exact ⟨⟨by omega, by omega⟩, ⟨by omega, by omega⟩⟩
theorem join_in (a b : Int × Int) (n : Nat) : InP (joinOf a b n) := cPlus_in _ _
theorem check_some (a b : Int) : tag_Check.f a b = some (if rightB a b then 0 else 2) := by
  unfold tag_Check.f rightB
  by_cases h : (0 ≤ a ∧ a < 1048573) ∧ (0 ≤ b ∧ b < 1048573)
  · rw [if_pos h]; simp [h]
  · rw [if_neg h]; simp only [h, decide_false]; rfl
set_option maxHeartbeats 4000000 in
set_option maxRecDepth 100000 in
theorem join_yes (a0 a1 b0 b1 : Int) (n : Nat) (hn : n ≤ 9223372036854775807) (ha : rightB a0 a1 = true) (hb : rightB b0 b1 = true) (w : World) :
    Calls Try.prog 16 #[.agg #[.int .i64 a0, .int .i64 a1], .agg #[.int .i64 b0, .int .i64 b1], .int .i64 n] w fun e w' => e = .returned (.tuple #[.agg #[.int .i64 (joinOf (a0, a1) (b0, b1) n).1, .int .i64 (joinOf (a0, a1) (b0, b1) n).2], .int .i64 0]) ∧ Below w.heap.size w w' := by
  have hca : tag_Check.f a0 a1 = some 0 := by rw [check_some, ha]; rfl
  have hcb : tag_Check.f b0 b1 = some 0 := by rw [check_some, hb]; rfl
  have hal := of_decide_eq_true ha
  have hbl := of_decide_eq_true hb
  have HCA := Aside0.mk hca
  have HCB := Aside0.mk hcb
  have HAL := Aside0.mk hal
  have HBL := Aside0.mk hbl
  have HN := Aside0.mk hn
  have hn0 : (0 : Int) ≤ (n : Int) := by omega
  clear ha hb hca hcb hal hbl hn
  go_enter Try.func16, Try.ntmps16
  go_wp2_with (first | ((with_reducible refine gate_dst (N := 3) rfl ?_); refine box_event ?hg (N := 3) ?hd (cs := #[.int .i64 a0, .int .i64 a1]) (t := 28) ?hr ?_; (case hd => rfl); (case hg => rfl); (case hr => first | (go_simp; done) | (go_simp; rfl)); intro g3 hg w1 hbox hb; have HW := Aside0.mk hb; have HX3 := Aside0.mk hbox; have HG3 := Aside0.mk hg; clear hb hbox hg) | ((with_reducible refine gate_dst (N := 4) rfl ?_); refine box_event ?hg (N := 4) ?hd (cs := #[.int .i64 b0, .int .i64 b1]) (t := 28) ?hr ?_; (case hd => rfl); (case hg => rfl); (case hr => first | (go_simp; done) | (go_simp; rfl)); intro g4 hg w2 hbox hb; have HX3b := Aside0.mk (blk_below HX3.out hb); have HWb := Aside0.mk (below_step HW.out hb); have HX4 := Aside0.mk hbox; have HG4 := Aside0.mk hg; clear hb hbox hg HX3 HW) | ((with_reducible refine gate_dst (N := 6) rfl ?_); refine box_event ?hg (N := 6) ?hd (cs := #[.int .i64 0, .int .i64 0]) (t := 28) ?hr ?_; (case hd => rfl); (case hg => rfl); (case hr => first | (go_simp; done) | (go_simp; rfl)); intro g6 hg w3 hbox hb; have HNE := Aside0.mk (show g3 ≠ g6 ∧ g4 ≠ g6 from ⟨by have := blk_lt HX3b.out; omega, by have := blk_lt HX4.out; omega⟩); have HX3c := Aside0.mk (blk_below HX3b.out hb); have HWc := Aside0.mk (below_step HWb.out hb); have HX4c := Aside0.mk (blk_below HX4.out hb); have HX6 := Aside0.mk hbox; have HG6 := Aside0.mk (show w.heap.size ≤ g6 by rw [hg]; exact HWb.out.size); clear hb hbox hg HX3b HWb HX4; have hc30 : w3.cell? ⟨g3, 0, none⟩ = some (.int .i64 a0) := (blk_cell HX3c.out 0).trans rfl; have hc31 : w3.cell? ⟨g3, 1, none⟩ = some (.int .i64 a1) := (blk_cell HX3c.out 1).trans rfl; have hc40 : w3.cell? ⟨g4, 0, none⟩ = some (.int .i64 b0) := (blk_cell HX4c.out 0).trans rfl; have hc41 : w3.cell? ⟨g4, 1, none⟩ = some (.int .i64 b1) := (blk_cell HX4c.out 1).trans rfl) | (go_at_call 18; (with_reducible refine (tag_Check.calls a0 a1 0 _ HCA.out).mono ?_); rintro e w4 ⟨rfl, hb⟩; have HX3d := Aside0.mk (blk_below HX3c.out hb); have HWd := Aside0.mk (below_step HWc.out hb); have HX4d := Aside0.mk (blk_below HX4c.out hb); have HX6d := Aside0.mk (blk_below HX6.out hb); clear hb HX3c HWc HX4c HX6; have hd40 : w4.cell? ⟨g4, 0, none⟩ = some (.int .i64 b0) := (blk_cell HX4d.out 0).trans rfl; have hd41 : w4.cell? ⟨g4, 1, none⟩ = some (.int .i64 b1) := (blk_cell HX4d.out 1).trans rfl) | (go_at_call 18; (with_reducible refine (tag_Check.calls b0 b1 0 _ HCB.out).mono ?_); rintro e w5 ⟨rfl, hb⟩; have HX3e := Aside0.mk (blk_below HX3d.out hb); have HWe := Aside0.mk (below_step HWd.out hb); have HX4e := Aside0.mk (blk_below HX4d.out hb); have HX6e := Aside0.mk (blk_below HX6d.out hb); clear hb HX3d HWd HX4d HX6d))
  have s5 : w5.cell? ⟨g3, 0, none⟩ = some (.int .i64 a0) ∧ w5.cell? ⟨g3, 1, none⟩ = some (.int .i64 a1) ∧ w5.cell? ⟨g4, 0, none⟩ = some (.int .i64 b0) ∧ w5.cell? ⟨g4, 1, none⟩ = some (.int .i64 b1) := ⟨(blk_cell HX3e.out 0).trans rfl, (blk_cell HX3e.out 1).trans rfl, (blk_cell HX4e.out 0).trans rfl, (blk_cell HX4e.out 1).trans rfl⟩
  clear hc30 hc31 hc40 hc41 hd40 hd41
  go_region_held3 (fun w' => w'.cell? ⟨g3, 0, none⟩ = some (.int .i64 a0) ∧ w'.cell? ⟨g3, 1, none⟩ = some (.int .i64 a1) ∧ w'.cell? ⟨g4, 0, none⟩ = some (.int .i64 b0) ∧ w'.cell? ⟨g4, 1, none⟩ = some (.int .i64 b1)) (first | exact s5 | exact s6 | exact s7 | exact s8 | exact ⟨(blk_cell (blk_far (blk_far HX3h.out HNE.out.1 _) HNE.out.1 _) 0).trans rfl, (blk_cell (blk_far (blk_far HX3h.out HNE.out.1 _) HNE.out.1 _) 1).trans rfl, (blk_cell (blk_far (blk_far HX4h.out HNE.out.2 _) HNE.out.2 _) 0).trans rfl, (blk_cell (blk_far (blk_far HX4h.out HNE.out.2 _) HNE.out.2 _) 1).trans rfl⟩ | go_keep) (first | (go_at_call 29; (with_reducible refine (of_calls a0 a1 (by have := HAL.out; omega) (by have := HAL.out; omega) _).mono ?_); rintro e w6 ⟨⟨x1, y1, rfl, hx1, hy1⟩, hb⟩; have HZ1 := Aside0.mk (And.intro hx1 hy1); clear hx1 hy1; have HX3f := Aside0.mk (blk_below (g := g3) (o := .cells #[.int .i64 a0, .int .i64 a1] 28 (0, 0)) (by (with_reducible repeat (first | refine blk_drewN ?_ _ | refine blk_drew ?_ | refine blk_alloc ?_ _)); exact HX3e.out) hb); have HX4f := Aside0.mk (blk_below (g := g4) (o := .cells #[.int .i64 b0, .int .i64 b1] 28 (0, 0)) (by (with_reducible repeat (first | refine blk_drewN ?_ _ | refine blk_drew ?_ | refine blk_alloc ?_ _)); exact HX4e.out) hb); have HX6f := Aside0.mk (blk_below (g := g6) (o := .cells #[.int .i64 0, .int .i64 0] 28 (0, 0)) (by (with_reducible repeat (first | refine blk_drewN ?_ _ | refine blk_drew ?_ | refine blk_alloc ?_ _)); exact HX6e.out) hb); have HWf := Aside0.mk (below_step (by repeat (first | (with_reducible first | exact HWe.out | apply below_alloc | apply pw_below_drewN | apply below_drew1) | exact HWe.out)) hb); clear hb; have s6 : w6.cell? ⟨g3, 0, none⟩ = some (.int .i64 a0) ∧ w6.cell? ⟨g3, 1, none⟩ = some (.int .i64 a1) ∧ w6.cell? ⟨g4, 0, none⟩ = some (.int .i64 b0) ∧ w6.cell? ⟨g4, 1, none⟩ = some (.int .i64 b1) := ⟨(blk_cell HX3f.out 0).trans rfl, (blk_cell HX3f.out 1).trans rfl, (blk_cell HX4f.out 0).trans rfl, (blk_cell HX4f.out 1).trans rfl⟩) | (go_at_call 30; (with_reducible refine (power_calls n HN.out _).mono ?_); rintro e w1 ⟨⟨x2, y2, rfl, hx2, hy2⟩, ⟨n1, rfl⟩⟩; have HZ2 := Aside0.mk (And.intro hx2 hy2); clear hx2 hy2) | (go_at_call 24; (with_reducible refine (times_calls x1 y1 x2 y2 _ _ _ _ HZ1.out.1 HZ1.out.2 HZ2.out.1 HZ2.out.2 (by have := HAL.out; omega) (by have := HAL.out; omega) (powOf_in n).lt.1 (powOf_in n).lt.2 _).mono ?_); rintro e w1 ⟨⟨x3, y3, rfl, hx3, hy3⟩, ⟨n2, rfl⟩⟩; have HZ3 := Aside0.mk (show Fl x3 (cTimes (a0, a1) (powOf n)).1 ∧ Fl y3 (cTimes (a0, a1) (powOf n)).2 from And.intro hx3 hy3); clear hx3 hy3) | (go_at_call 29; (with_reducible refine (of_calls b0 b1 (by have := HBL.out; omega) (by have := HBL.out; omega) _).mono ?_); rintro e w7 ⟨⟨x4, y4, rfl, hx4, hy4⟩, hb⟩; have HX3g := Aside0.mk (blk_below (g := g3) (o := .cells #[.int .i64 a0, .int .i64 a1] 28 (0, 0)) (by (with_reducible repeat (first | refine blk_drewN ?_ _ | refine blk_drew ?_ | refine blk_alloc ?_ _)); exact HX3f.out) hb); have HX4g := Aside0.mk (blk_below (g := g4) (o := .cells #[.int .i64 b0, .int .i64 b1] 28 (0, 0)) (by (with_reducible repeat (first | refine blk_drewN ?_ _ | refine blk_drew ?_ | refine blk_alloc ?_ _)); exact HX4f.out) hb); have HX6g := Aside0.mk (blk_below (g := g6) (o := .cells #[.int .i64 0, .int .i64 0] 28 (0, 0)) (by (with_reducible repeat (first | refine blk_drewN ?_ _ | refine blk_drew ?_ | refine blk_alloc ?_ _)); exact HX6f.out) hb); have HWg := Aside0.mk (below_step (by repeat (first | (with_reducible first | exact HWf.out | apply below_alloc | apply pw_below_drewN | apply below_drew1) | exact HWf.out)) hb); clear hb; have s7 : w7.cell? ⟨g3, 0, none⟩ = some (.int .i64 a0) ∧ w7.cell? ⟨g3, 1, none⟩ = some (.int .i64 a1) ∧ w7.cell? ⟨g4, 0, none⟩ = some (.int .i64 b0) ∧ w7.cell? ⟨g4, 1, none⟩ = some (.int .i64 b1) := ⟨(blk_cell HX3g.out 0).trans rfl, (blk_cell HX3g.out 1).trans rfl, (blk_cell HX4g.out 0).trans rfl, (blk_cell HX4g.out 1).trans rfl⟩; have hir := cTimes_in (a0, a1) (powOf n); unfold InP at hir; obtain ⟨z1, hz1, e1⟩ := HZ3.out.1.add_run hx4 (by omega) (by have := HBL.out; omega) (by have := HBL.out; omega); obtain ⟨z2, hz2, e2⟩ := HZ3.out.2.add_run hy4 (by omega) (by have := HBL.out; omega) (by have := HBL.out; omega); have m3 := Fl.csum e1 e2 51; have HZ4 := Aside0.mk (And.intro hz1 hz2); clear hx4 hy4 hz1 hz2 e1 e2 hir) | (go_at_call 25; (with_reducible refine (small_calls z1 z2 _ _ HZ4.out.1 HZ4.out.2 (by have := HBL.out; have hir := cTimes_in (a0, a1) (powOf n); unfold InP at hir; omega) (by have := HBL.out; have hir := cTimes_in (a0, a1) (powOf n); unfold InP at hir; omega) _).mono ?_); rintro e w1 ⟨⟨x5, y5, rfl, hx5, hy5⟩, ⟨n3, rfl⟩⟩; have HZ5 := Aside0.mk (show Fl x5 (joinOf (a0, a1) (b0, b1) n).1 ∧ Fl y5 (joinOf (a0, a1) (b0, b1) n).2 from And.intro hx5 hy5); clear hx5 hy5) | (go_at_call 26; (with_reducible refine (told_calls x5 y5 _ _ HZ5.out.1 HZ5.out.2 (by have h := join_in (a0, a1) (b0, b1) n; unfold InP at h; omega) (by have h := join_in (a0, a1) (b0, b1) n; unfold InP at h; omega) _).mono ?_); rintro e w8 ⟨rfl, hb⟩; have HX3h := Aside0.mk (blk_below (g := g3) (o := .cells #[.int .i64 a0, .int .i64 a1] 28 (0, 0)) (by (with_reducible repeat (first | refine blk_drewN ?_ _ | refine blk_drew ?_ | refine blk_alloc ?_ _)); exact HX3g.out) hb); have HX4h := Aside0.mk (blk_below (g := g4) (o := .cells #[.int .i64 b0, .int .i64 b1] 28 (0, 0)) (by (with_reducible repeat (first | refine blk_drewN ?_ _ | refine blk_drew ?_ | refine blk_alloc ?_ _)); exact HX4g.out) hb); have HX6h := Aside0.mk (blk_below (g := g6) (o := .cells #[.int .i64 0, .int .i64 0] 28 (0, 0)) (by (with_reducible repeat (first | refine blk_drewN ?_ _ | refine blk_drew ?_ | refine blk_alloc ?_ _)); exact HX6g.out) hb); have HWh := Aside0.mk (below_step (by repeat (first | (with_reducible first | exact HWg.out | apply below_alloc | apply pw_below_drewN | apply below_drew1) | exact HWg.out)) hb); clear hb; have s8 : w8.cell? ⟨g3, 0, none⟩ = some (.int .i64 a0) ∧ w8.cell? ⟨g3, 1, none⟩ = some (.int .i64 a1) ∧ w8.cell? ⟨g4, 0, none⟩ = some (.int .i64 b0) ∧ w8.cell? ⟨g4, 1, none⟩ = some (.int .i64 b1) := ⟨(blk_cell HX3h.out 0).trans rfl, (blk_cell HX3h.out 1).trans rfl, (blk_cell HX4h.out 0).trans rfl, (blk_cell HX4h.out 1).trans rfl⟩; have hcz0 : w8.cell? ⟨g6, 0, none⟩ = some (.int .i64 0) := (blk_cell HX6h.out 0).trans rfl; have hcz1 : w8.cell? ⟨g6, 1, none⟩ = some (.int .i64 0) := (blk_cell HX6h.out 1).trans rfl; have hfz0 := blk_frozen HX6h.out 0; have hfz1 := blk_frozen HX6h.out 1))
  go_wp2
  refine bodyPost_ret (results_ct rfl _ _ g6 28 #[.int .i64 (joinOf (a0, a1) (b0, b1) n).1, .int .i64 (joinOf (a0, a1) (b0, b1) n).2] (0, 0) _ rfl (by (with_reducible repeat (first | refine blk_drewN ?_ _ | refine blk_drew ?_ | refine blk_alloc ?_ _)); refine blk_put (cs := #[.int .i64 (joinOf (a0, a1) (b0, b1) n).1, .int .i64 0]) ?_ 1 _ rfl; (with_reducible repeat (first | refine blk_drewN ?_ _ | refine blk_drew ?_ | refine blk_alloc ?_ _)); refine blk_put (cs := #[.int .i64 0, .int .i64 0]) ?_ 0 _ rfl; (with_reducible repeat (first | refine blk_drewN ?_ _ | refine blk_drew ?_ | refine blk_alloc ?_ _)); exact HX6h.out) Try.underlying28 rfl (by kernel_rfl)) rfl ?_
  exact ⟨by first | rfl | (simp; done), by repeat (first | (with_reducible first | exact HWh.out | apply below_alloc | apply pw_below_drewN | apply below_drew1 | refine below_set ?_ HG6.out) | exact HWh.out)⟩
set_option maxHeartbeats 4000000 in
set_option maxRecDepth 100000 in
theorem join_no1 (a0 a1 b0 b1 n : Int) (ha : rightB a0 a1 = false) (w : World) :
    Calls Try.prog 16 #[.agg #[.int .i64 a0, .int .i64 a1], .agg #[.int .i64 b0, .int .i64 b1], .int .i64 n] w fun e w' => e = .returned (.tuple #[.agg #[.int .i64 0, .int .i64 0], .int .i64 2]) ∧ Below w.heap.size w w' := by
  have HCA := Aside0.mk (show tag_Check.f a0 a1 = some 2 by rw [check_some, ha]; rfl)
  have HCB := Aside0.mk (check_some b0 b1)
  clear ha
  go_enter Try.func16, Try.ntmps16
  go_wp2_with (first | ((with_reducible refine gate_dst (N := 3) rfl ?_); refine box_event ?hg (N := 3) ?hd (cs := #[.int .i64 a0, .int .i64 a1]) (t := 28) ?hr ?_; (case hd => rfl); (case hg => rfl); (case hr => first | (go_simp; done) | (go_simp; rfl)); intro g3 hg w1 hbox hb; have HW := Aside0.mk hb; have HX3 := Aside0.mk hbox; have HG3 := Aside0.mk hg; clear hb hbox hg) | ((with_reducible refine gate_dst (N := 4) rfl ?_); refine box_event ?hg (N := 4) ?hd (cs := #[.int .i64 b0, .int .i64 b1]) (t := 28) ?hr ?_; (case hd => rfl); (case hg => rfl); (case hr => first | (go_simp; done) | (go_simp; rfl)); intro g4 hg w2 hbox hb; have HX3b := Aside0.mk (blk_below HX3.out hb); have HWb := Aside0.mk (below_step HW.out hb); have HX4 := Aside0.mk hbox; have HG4 := Aside0.mk hg; clear hb hbox hg HX3 HW) | ((with_reducible refine gate_dst (N := 6) rfl ?_); refine box_event ?hg (N := 6) ?hd (cs := #[.int .i64 0, .int .i64 0]) (t := 28) ?hr ?_; (case hd => rfl); (case hg => rfl); (case hr => first | (go_simp; done) | (go_simp; rfl)); intro g6 hg w3 hbox hb; have HNE := Aside0.mk (show g3 ≠ g6 ∧ g4 ≠ g6 from ⟨by have := blk_lt HX3b.out; omega, by have := blk_lt HX4.out; omega⟩); have HX3c := Aside0.mk (blk_below HX3b.out hb); have HWc := Aside0.mk (below_step HWb.out hb); have HX4c := Aside0.mk (blk_below HX4.out hb); have HX6 := Aside0.mk hbox; have HG6 := Aside0.mk (show w.heap.size ≤ g6 by rw [hg]; exact HWb.out.size); clear hb hbox hg HX3b HWb HX4; have hc30 : w3.cell? ⟨g3, 0, none⟩ = some (.int .i64 a0) := (blk_cell HX3c.out 0).trans rfl; have hc31 : w3.cell? ⟨g3, 1, none⟩ = some (.int .i64 a1) := (blk_cell HX3c.out 1).trans rfl; have hc40 : w3.cell? ⟨g4, 0, none⟩ = some (.int .i64 b0) := (blk_cell HX4c.out 0).trans rfl; have hc41 : w3.cell? ⟨g4, 1, none⟩ = some (.int .i64 b1) := (blk_cell HX4c.out 1).trans rfl) | (go_at_call 18; (with_reducible refine (tag_Check.calls a0 a1 2 _ HCA.out).mono ?_); rintro e w4 ⟨rfl, hb⟩; have HX3d := Aside0.mk (blk_below HX3c.out hb); have HWd := Aside0.mk (below_step HWc.out hb); have HX4d := Aside0.mk (blk_below HX4c.out hb); have HX6d := Aside0.mk (blk_below HX6.out hb); clear hb HX3c HWc HX4c HX6; have hcz0 : w4.cell? ⟨g6, 0, none⟩ = some (.int .i64 0) := (blk_cell HX6d.out 0).trans rfl; have hcz1 : w4.cell? ⟨g6, 1, none⟩ = some (.int .i64 0) := (blk_cell HX6d.out 1).trans rfl; have hfz0 := blk_frozen HX6d.out 0; have hfz1 := blk_frozen HX6d.out 1; have hd40 : w4.cell? ⟨g4, 0, none⟩ = some (.int .i64 b0) := (blk_cell HX4d.out 0).trans rfl; have hd41 : w4.cell? ⟨g4, 1, none⟩ = some (.int .i64 b1) := (blk_cell HX4d.out 1).trans rfl) | (go_at_call 18; (with_reducible refine (tag_Check.calls b0 b1 (if rightB b0 b1 then 0 else 2) _ HCB.out).mono ?_); rintro e w5 ⟨rfl, hb⟩; have HX3e := Aside0.mk (blk_below HX3d.out hb); have HWe := Aside0.mk (below_step HWd.out hb); have HX4e := Aside0.mk (blk_below HX4d.out hb); have HX6e := Aside0.mk (blk_below HX6d.out hb); clear hb HX3d HWd HX4d HX6d))
  refine bodyPost_ret (results_ct rfl _ _ g6 28 #[.int .i64 0, .int .i64 0] (0, 0) _ rfl (by (with_reducible repeat (first | refine blk_drewN ?_ _ | refine blk_drew ?_ | refine blk_alloc ?_ _)); refine blk_put (cs := #[.int .i64 0, .int .i64 0]) ?_ 1 _ rfl; (with_reducible repeat (first | refine blk_drewN ?_ _ | refine blk_drew ?_ | refine blk_alloc ?_ _)); refine blk_put (cs := #[.int .i64 0, .int .i64 0]) ?_ 0 _ rfl; (with_reducible repeat (first | refine blk_drewN ?_ _ | refine blk_drew ?_ | refine blk_alloc ?_ _)); exact HX6d.out) Try.underlying28 rfl (by kernel_rfl)) rfl ?_
  exact ⟨by first | rfl | (simp; done), by repeat (first | (with_reducible first | exact HWd.out | apply below_alloc | apply pw_below_drewN | apply below_drew1 | refine below_set ?_ HG6.out) | exact HWd.out)⟩
set_option maxHeartbeats 4000000 in
set_option maxRecDepth 100000 in
theorem join_no2 (a0 a1 b0 b1 n : Int) (ha : rightB a0 a1 = true) (hb : rightB b0 b1 = false) (w : World) :
    Calls Try.prog 16 #[.agg #[.int .i64 a0, .int .i64 a1], .agg #[.int .i64 b0, .int .i64 b1], .int .i64 n] w fun e w' => e = .returned (.tuple #[.agg #[.int .i64 0, .int .i64 0], .int .i64 2]) ∧ Below w.heap.size w w' := by
  have HCA := Aside0.mk (show tag_Check.f a0 a1 = some 0 by rw [check_some, ha]; rfl)
  have HCB := Aside0.mk (show tag_Check.f b0 b1 = some 2 by rw [check_some, hb]; rfl)
  clear ha hb
  go_enter Try.func16, Try.ntmps16
  go_wp2_with (first | ((with_reducible refine gate_dst (N := 3) rfl ?_); refine box_event ?hg (N := 3) ?hd (cs := #[.int .i64 a0, .int .i64 a1]) (t := 28) ?hr ?_; (case hd => rfl); (case hg => rfl); (case hr => first | (go_simp; done) | (go_simp; rfl)); intro g3 hg w1 hbox hb; have HW := Aside0.mk hb; have HX3 := Aside0.mk hbox; have HG3 := Aside0.mk hg; clear hb hbox hg) | ((with_reducible refine gate_dst (N := 4) rfl ?_); refine box_event ?hg (N := 4) ?hd (cs := #[.int .i64 b0, .int .i64 b1]) (t := 28) ?hr ?_; (case hd => rfl); (case hg => rfl); (case hr => first | (go_simp; done) | (go_simp; rfl)); intro g4 hg w2 hbox hb; have HX3b := Aside0.mk (blk_below HX3.out hb); have HWb := Aside0.mk (below_step HW.out hb); have HX4 := Aside0.mk hbox; have HG4 := Aside0.mk hg; clear hb hbox hg HX3 HW) | ((with_reducible refine gate_dst (N := 6) rfl ?_); refine box_event ?hg (N := 6) ?hd (cs := #[.int .i64 0, .int .i64 0]) (t := 28) ?hr ?_; (case hd => rfl); (case hg => rfl); (case hr => first | (go_simp; done) | (go_simp; rfl)); intro g6 hg w3 hbox hb; have HNE := Aside0.mk (show g3 ≠ g6 ∧ g4 ≠ g6 from ⟨by have := blk_lt HX3b.out; omega, by have := blk_lt HX4.out; omega⟩); have HX3c := Aside0.mk (blk_below HX3b.out hb); have HWc := Aside0.mk (below_step HWb.out hb); have HX4c := Aside0.mk (blk_below HX4.out hb); have HX6 := Aside0.mk hbox; have HG6 := Aside0.mk (show w.heap.size ≤ g6 by rw [hg]; exact HWb.out.size); clear hb hbox hg HX3b HWb HX4; have hc30 : w3.cell? ⟨g3, 0, none⟩ = some (.int .i64 a0) := (blk_cell HX3c.out 0).trans rfl; have hc31 : w3.cell? ⟨g3, 1, none⟩ = some (.int .i64 a1) := (blk_cell HX3c.out 1).trans rfl; have hc40 : w3.cell? ⟨g4, 0, none⟩ = some (.int .i64 b0) := (blk_cell HX4c.out 0).trans rfl; have hc41 : w3.cell? ⟨g4, 1, none⟩ = some (.int .i64 b1) := (blk_cell HX4c.out 1).trans rfl) | (go_at_call 18; (with_reducible refine (tag_Check.calls a0 a1 0 _ HCA.out).mono ?_); rintro e w4 ⟨rfl, hb⟩; have HX3d := Aside0.mk (blk_below HX3c.out hb); have HWd := Aside0.mk (below_step HWc.out hb); have HX4d := Aside0.mk (blk_below HX4c.out hb); have HX6d := Aside0.mk (blk_below HX6.out hb); clear hb HX3c HWc HX4c HX6; have hd40 : w4.cell? ⟨g4, 0, none⟩ = some (.int .i64 b0) := (blk_cell HX4d.out 0).trans rfl; have hd41 : w4.cell? ⟨g4, 1, none⟩ = some (.int .i64 b1) := (blk_cell HX4d.out 1).trans rfl) | (go_at_call 18; (with_reducible refine (tag_Check.calls b0 b1 2 _ HCB.out).mono ?_); rintro e w5 ⟨rfl, hb⟩; have HX3e := Aside0.mk (blk_below HX3d.out hb); have HWe := Aside0.mk (below_step HWd.out hb); have HX4e := Aside0.mk (blk_below HX4d.out hb); have HX6e := Aside0.mk (blk_below HX6d.out hb); clear hb HX3d HWd HX4d HX6d; have hcz0 : w5.cell? ⟨g6, 0, none⟩ = some (.int .i64 0) := (blk_cell HX6e.out 0).trans rfl; have hcz1 : w5.cell? ⟨g6, 1, none⟩ = some (.int .i64 0) := (blk_cell HX6e.out 1).trans rfl; have hfz0 := blk_frozen HX6e.out 0; have hfz1 := blk_frozen HX6e.out 1))
  refine bodyPost_ret (results_ct rfl _ _ g6 28 #[.int .i64 0, .int .i64 0] (0, 0) _ rfl (by (with_reducible repeat (first | refine blk_drewN ?_ _ | refine blk_drew ?_ | refine blk_alloc ?_ _)); refine blk_put (cs := #[.int .i64 0, .int .i64 0]) ?_ 1 _ rfl; (with_reducible repeat (first | refine blk_drewN ?_ _ | refine blk_drew ?_ | refine blk_alloc ?_ _)); refine blk_put (cs := #[.int .i64 0, .int .i64 0]) ?_ 0 _ rfl; (with_reducible repeat (first | refine blk_drewN ?_ _ | refine blk_drew ?_ | refine blk_alloc ?_ _)); exact HX6e.out) Try.underlying28 rfl (by kernel_rfl)) rfl ?_
  exact ⟨by first | rfl | (simp; done), by repeat (first | (with_reducible first | exact HWe.out | apply below_alloc | apply pw_below_drewN | apply below_drew1 | refine below_set ?_ HG6.out) | exact HWe.out)⟩
set_option maxHeartbeats 4000000 in
set_option maxRecDepth 100000 in
theorem join_no3 (a0 a1 b0 b1 n : Int) (ha : rightB a0 a1 = true) (hb : rightB b0 b1 = true) (hn : n < 0) (w : World) :
    Calls Try.prog 16 #[.agg #[.int .i64 a0, .int .i64 a1], .agg #[.int .i64 b0, .int .i64 b1], .int .i64 n] w fun e w' => e = .returned (.tuple #[.agg #[.int .i64 0, .int .i64 0], .int .i64 2]) ∧ Below w.heap.size w w' := by
  have HCA := Aside0.mk (show tag_Check.f a0 a1 = some 0 by rw [check_some, ha]; rfl)
  have HCB := Aside0.mk (show tag_Check.f b0 b1 = some 0 by rw [check_some, hb]; rfl)
  clear ha hb
  go_enter Try.func16, Try.ntmps16
  go_wp2_with (first | ((with_reducible refine gate_dst (N := 3) rfl ?_); refine box_event ?hg (N := 3) ?hd (cs := #[.int .i64 a0, .int .i64 a1]) (t := 28) ?hr ?_; (case hd => rfl); (case hg => rfl); (case hr => first | (go_simp; done) | (go_simp; rfl)); intro g3 hg w1 hbox hb; have HW := Aside0.mk hb; have HX3 := Aside0.mk hbox; have HG3 := Aside0.mk hg; clear hb hbox hg) | ((with_reducible refine gate_dst (N := 4) rfl ?_); refine box_event ?hg (N := 4) ?hd (cs := #[.int .i64 b0, .int .i64 b1]) (t := 28) ?hr ?_; (case hd => rfl); (case hg => rfl); (case hr => first | (go_simp; done) | (go_simp; rfl)); intro g4 hg w2 hbox hb; have HX3b := Aside0.mk (blk_below HX3.out hb); have HWb := Aside0.mk (below_step HW.out hb); have HX4 := Aside0.mk hbox; have HG4 := Aside0.mk hg; clear hb hbox hg HX3 HW) | ((with_reducible refine gate_dst (N := 6) rfl ?_); refine box_event ?hg (N := 6) ?hd (cs := #[.int .i64 0, .int .i64 0]) (t := 28) ?hr ?_; (case hd => rfl); (case hg => rfl); (case hr => first | (go_simp; done) | (go_simp; rfl)); intro g6 hg w3 hbox hb; have HNE := Aside0.mk (show g3 ≠ g6 ∧ g4 ≠ g6 from ⟨by have := blk_lt HX3b.out; omega, by have := blk_lt HX4.out; omega⟩); have HX3c := Aside0.mk (blk_below HX3b.out hb); have HWc := Aside0.mk (below_step HWb.out hb); have HX4c := Aside0.mk (blk_below HX4.out hb); have HX6 := Aside0.mk hbox; have HG6 := Aside0.mk (show w.heap.size ≤ g6 by rw [hg]; exact HWb.out.size); clear hb hbox hg HX3b HWb HX4; have hc30 : w3.cell? ⟨g3, 0, none⟩ = some (.int .i64 a0) := (blk_cell HX3c.out 0).trans rfl; have hc31 : w3.cell? ⟨g3, 1, none⟩ = some (.int .i64 a1) := (blk_cell HX3c.out 1).trans rfl; have hc40 : w3.cell? ⟨g4, 0, none⟩ = some (.int .i64 b0) := (blk_cell HX4c.out 0).trans rfl; have hc41 : w3.cell? ⟨g4, 1, none⟩ = some (.int .i64 b1) := (blk_cell HX4c.out 1).trans rfl) | (go_at_call 18; (with_reducible refine (tag_Check.calls a0 a1 0 _ HCA.out).mono ?_); rintro e w4 ⟨rfl, hb⟩; have HX3d := Aside0.mk (blk_below HX3c.out hb); have HWd := Aside0.mk (below_step HWc.out hb); have HX4d := Aside0.mk (blk_below HX4c.out hb); have HX6d := Aside0.mk (blk_below HX6.out hb); clear hb HX3c HWc HX4c HX6; have hd40 : w4.cell? ⟨g4, 0, none⟩ = some (.int .i64 b0) := (blk_cell HX4d.out 0).trans rfl; have hd41 : w4.cell? ⟨g4, 1, none⟩ = some (.int .i64 b1) := (blk_cell HX4d.out 1).trans rfl) | (go_at_call 18; (with_reducible refine (tag_Check.calls b0 b1 0 _ HCB.out).mono ?_); rintro e w5 ⟨rfl, hb⟩; have HX3e := Aside0.mk (blk_below HX3d.out hb); have HWe := Aside0.mk (below_step HWd.out hb); have HX4e := Aside0.mk (blk_below HX4d.out hb); have HX6e := Aside0.mk (blk_below HX6d.out hb); clear hb HX3d HWd HX4d HX6d; have hcz0 : w5.cell? ⟨g6, 0, none⟩ = some (.int .i64 0) := (blk_cell HX6e.out 0).trans rfl; have hcz1 : w5.cell? ⟨g6, 1, none⟩ = some (.int .i64 0) := (blk_cell HX6e.out 1).trans rfl; have hfz0 := blk_frozen HX6e.out 0; have hfz1 := blk_frozen HX6e.out 1))
  refine bodyPost_ret (results_ct rfl _ _ g6 28 #[.int .i64 0, .int .i64 0] (0, 0) _ rfl (by (with_reducible repeat (first | refine blk_drewN ?_ _ | refine blk_drew ?_ | refine blk_alloc ?_ _)); refine blk_put (cs := #[.int .i64 0, .int .i64 0]) ?_ 1 _ rfl; (with_reducible repeat (first | refine blk_drewN ?_ _ | refine blk_drew ?_ | refine blk_alloc ?_ _)); refine blk_put (cs := #[.int .i64 0, .int .i64 0]) ?_ 0 _ rfl; (with_reducible repeat (first | refine blk_drewN ?_ _ | refine blk_drew ?_ | refine blk_alloc ?_ _)); exact HX6e.out) Try.underlying28 rfl (by kernel_rfl)) rfl ?_
  exact ⟨by first | rfl | (simp; done), by repeat (first | (with_reducible first | exact HWe.out | apply below_alloc | apply pw_below_drewN | apply below_drew1 | refine below_set ?_ HG6.out) | exact HWe.out)⟩
theorem tag_Join.calls (a0_0 a0_1 a1_0 a1_1 a2 : Int) (r1 r2 r3 : Int) (w : World) (h : tag_Join.f a0_0 a0_1 a1_0 a1_1 a2 = some (r1, r2, r3)) :
    Calls Try.prog 16 #[.agg #[.int .i64 a0_0, .int .i64 a0_1], .agg #[.int .i64 a1_0, .int .i64 a1_1], .int .i64 a2] w fun e w' => e = .returned (.tuple #[.agg #[.int .i64 r1, .int .i64 r2], .int .i64 r3]) ∧ Below w.heap.size w w' := by
  unfold tag_Join.f at h
  by_cases hc : rightB a0_0 a0_1 = true ∧ rightB a1_0 a1_1 = true ∧ 0 ≤ a2
  · rw [if_pos hc] at h
    by_cases hm : a2 ≤ 9223372036854775807
    · rw [if_pos hm] at h
      obtain ⟨n, rfl⟩ := Int.eq_ofNat_of_zero_le hc.2.2
      simp only [Int.toNat_natCast, Option.some.injEq, Prod.mk.injEq] at h
      obtain ⟨rfl, rfl, rfl⟩ := h
      exact join_yes a0_0 a0_1 a1_0 a1_1 n (by omega) hc.1 hc.2.1 w
    · rw [if_neg hm] at h
      cases h
  · rw [if_neg hc] at h
    simp only [Option.some.injEq, Prod.mk.injEq] at h
    obtain ⟨rfl, rfl, rfl⟩ := h
    cases ha : rightB a0_0 a0_1
    · exact join_no1 a0_0 a0_1 a1_0 a1_1 a2 ha w
    · cases hb : rightB a1_0 a1_1
      · exact join_no2 a0_0 a0_1 a1_0 a1_1 a2 ha hb w
      · exact join_no3 a0_0 a0_1 a1_0 a1_1 a2 ha hb (by
          apply Decidable.byContradiction
          intro hq
          exact hc ⟨ha, hb, by omega⟩) w
end Go.Proofs.Ytfkimpbgiiakcaa.A
