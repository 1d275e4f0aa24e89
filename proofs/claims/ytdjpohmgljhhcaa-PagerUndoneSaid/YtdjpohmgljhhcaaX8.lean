/- OnesCount64, Free. -/
import Derived.Test.YtdjpohmgljhhcaaX7
import Derived.Test.YtdjpohmgljhhcaaX6
import Derived.Below
import Derived.Deep.Draws
import Derived.Deep.AppendLies
import Derived.Maps.AppendAt
import Derived.OwnWalk
import Derived.Laws.BytesArg
import Derived.Laws.MakeOwn
import Derived.Laws.OwnMore
import Derived.Deep.OwnRows
import Derived.Tactics
import Derived.Lib.ConvBytes
import Derived.Laws.Slices
import Derived.WalkKit
import Derived.KernelRfl
import Derived.RowKit3
import Derived.Deep.LoopGhost
import Derived.Deep.QuietTactic
import Derived.BigQuiet
import Derived.WideLaws
import Derived.Deep.DeepCutAuto
import Derived.Deep.CutBlock
import Derived.Deep.RegionHeld3
import Derived.Laws.Rows
import Derived.Lib.AppendStr
import Derived.ArgAppend
import Derived.Laws.IdiomCopy
import Derived.OrdersHeld
import Derived.Laws.BitsLemmas
import Derived.RowKit
import Derived.Laws.Cover1
import Derived.Deep.RegionWith
import Derived.Deep.RegionLaw
import Derived.WalkMore
import Derived.ScopeJumps
import Derived.Test.YtdjpohmgljhhcaaWWords
import Derived.Test.YtdjpohmgljhhcaaWLast
import Derived.Test.YtdjpohmgljhhcaaWTab
import Derived.Test.YtdjpohmgljhhcaaWFour
import Derived.Test.YtdjpohmgljhhcaaWQPut
import Derived.Test.YtdjpohmgljhhcaaWApart
import Derived.Test.YtdjpohmgljhhcaaWArr
import Derived.Test.YtdjpohmgljhhcaaWZeros
import Derived.Test.YtdjpohmgljhhcaaWFoot
import Derived.Test.YtdjpohmgljhhcaaWKept
import Derived.Test.YtdjpohmgljhhcaaWShare
import Derived.Test.YtdjpohmgljhhcaaWN
import Derived.Test.YtdjpohmgljhhcaaWFootNe
import Derived.Test.YtdjpohmgljhhcaaWAt
import Derived.Test.YtdjpohmgljhhcaaWEqStruct
import Derived.Test.YtdjpohmgljhhcaaWRepsOne
import Derived.Test.YtdjpohmgljhhcaaWInv
import Derived.Test.YtdjpohmgljhhcaaWInvWords
import Derived.Test.YtdjpohmgljhhcaaWGuard
import Derived.Test.YtdjpohmgljhhcaaWNEv
import Derived.Test.YtdjpohmgljhhcaaWMore
import Derived.Laws.BitsAllLaws
namespace Go.Proofs.Ytdjpohmgljhhcaa.A
open Go.RowKit Go.Proofs.YtdjpohmgljhhcaaW.PrintWords Go.Proofs.YtdjpohmgljhhcaaW.PrintLast Go.Proofs.YtdjpohmgljhhcaaW.PrintMore
set_option linter.unusedVariables false
set_option maxHeartbeats 4000000
set_option maxRecDepth 100000
theorem u64_wrap (a : Nat) (h : a < 18446744073709551616) : IntKind.u64.wrap (a : Int) = (a : Int) := by
  have e2 : IntKind.u64.wrap (a : Int) = (a : Int) % 18446744073709551616 := by simp [IntKind.wrap, IntKind.bits, IntKind.signed]
  rw [e2]
  omega
theorem u64_add (a b c : Nat) (h : a + b = c) (hc : c < 18446744073709551616) : IntKind.u64.wrap ((a : Int) + (b : Int)) = (c : Int) := by
  subst h
  rw [← u64_wrap _ hc, Int.natCast_add]
theorem masks : mask 85 8 = 6148914691236517205 ∧ mask 51 8 = 3689348814741910323 ∧ mask 15 8 = 1085102592571150095 := ⟨rfl, rfl, rfl⟩
theorem i64_and127 (a : Nat) (h : a < 9223372036854775808) : bits .and .i64 (a : Int) 127 = ((a % 128 : Nat) : Int) := by
  have := bits_mask .i64 63 (by decide) (fun n h0 h1 => by rw [IntKind.wrap_i64]; omega) 7 (by decide) (a : Int) (by omega) (by omega)
  rw [show (127 : Int) = 2 ^ 7 - 1 from rfl]
  exact this
theorem ones_calls (u : Nat) (hu : u < 18446744073709551616) (R : Nat) (hR : popsum 8 u = R) (w : World) : Calls Try.prog 41 #[.int .u64 (u : Int)] w fun e w' => e = .returned (.int .i64 (R : Int)) ∧ Drawn0 w w' := by
  obtain ⟨x4, x5, x6, f1, f2, f3, f4, f5, f6, f7, f8⟩ := fold_sum u
  rw [← (sw_pops 8 u hu).1] at f1 f5
  rw [hR] at f4
  clear hR
  obtain ⟨a1, ha1⟩ : ∃ a, u / 2 = a := ⟨_, rfl⟩
  obtain ⟨b1, hb1⟩ : ∃ a, a1 &&& 6148914691236517205 = a := ⟨_, rfl⟩
  obtain ⟨c1, hc1⟩ : ∃ a, u &&& 6148914691236517205 = a := ⟨_, rfl⟩
  have hx1 : sw1 8 u = b1 + c1 := by rw [sw1, masks.1, ha1, hb1, hc1]
  obtain ⟨x1, hx1'⟩ : ∃ a, b1 + c1 = a := ⟨_, rfl⟩
  rw [hx1'] at hx1
  rw [hx1] at f1 f5
  obtain ⟨a2, ha2⟩ : ∃ a, x1 / 4 = a := ⟨_, rfl⟩
  obtain ⟨b2, hb2⟩ : ∃ a, a2 &&& 3689348814741910323 = a := ⟨_, rfl⟩
  obtain ⟨c2, hc2⟩ : ∃ a, x1 &&& 3689348814741910323 = a := ⟨_, rfl⟩
  have hx2 : sw2 8 x1 = b2 + c2 := by rw [sw2, masks.2.1, ha2, hb2, hc2]
  obtain ⟨x2, hx2'⟩ : ∃ a, b2 + c2 = a := ⟨_, rfl⟩
  rw [hx2'] at hx2
  rw [hx2] at f1 f5
  obtain ⟨a3, ha3⟩ : ∃ a, x2 / 16 = a := ⟨_, rfl⟩
  obtain ⟨s3, hs3⟩ : ∃ a, a3 + x2 = a := ⟨_, rfl⟩
  obtain ⟨x3, hx3'⟩ : ∃ a, s3 &&& 1085102592571150095 = a := ⟨_, rfl⟩
  have hx3 : sw3 8 x2 = x3 := by rw [sw3, masks.2.2, ha3, hs3, hx3']
  rw [hx3] at f1 f5
  have l1 : b1 ≤ 6148914691236517205 := by rw [← hb1]; exact Nat.and_le_right
  have l2 : c1 ≤ 6148914691236517205 := by rw [← hc1]; exact Nat.and_le_right
  have l3 : b2 ≤ 3689348814741910323 := by rw [← hb2]; exact Nat.and_le_right
  have l4 : c2 ≤ 3689348814741910323 := by rw [← hc2]; exact Nat.and_le_right
  have la1 : a1 < 18446744073709551616 := by omega
  have lx1 : x1 < 18446744073709551616 := by omega
  have la2 : a2 < 18446744073709551616 := by omega
  have lx2 : x2 < 8446744073709551616 := by omega
  have ls3 : s3 < 18446744073709551616 := by omega
  obtain ⟨a4, ha4⟩ : ∃ a, x3 / 256 = a := ⟨_, rfl⟩
  obtain ⟨a5, ha5⟩ : ∃ a, x4 / 65536 = a := ⟨_, rfl⟩
  obtain ⟨a6, ha6⟩ : ∃ a, x5 / 4294967296 = a := ⟨_, rfl⟩
  rw [ha4] at f1
  rw [ha5] at f2
  rw [ha6] at f3
  have k1 : (u : Int) / 2 = (a1 : Int) := by omega
  have k2 : bits .and .u64 (a1 : Int) 6148914691236517205 = (b1 : Int) := (u64_and_nat a1 6148914691236517205 la1 (by decide)).trans (by rw [hb1])
  have k3 : bits .and .u64 (u : Int) 6148914691236517205 = (c1 : Int) := (u64_and_nat u 6148914691236517205 hu (by decide)).trans (by rw [hc1])
  have k4 := u64_add b1 c1 x1 hx1' lx1
  have k5 : (x1 : Int) / 4 = (a2 : Int) := by omega
  have k6 : bits .and .u64 (a2 : Int) 3689348814741910323 = (b2 : Int) := (u64_and_nat a2 3689348814741910323 la2 (by decide)).trans (by rw [hb2])
  have k7 : bits .and .u64 (x1 : Int) 3689348814741910323 = (c2 : Int) := (u64_and_nat x1 3689348814741910323 lx1 (by decide)).trans (by rw [hc2])
  have k8 := u64_add b2 c2 x2 hx2' (by omega)
  have k9 : (x2 : Int) / 16 = (a3 : Int) := by omega
  have k10 := u64_add a3 x2 s3 hs3 ls3
  have k11 : bits .and .u64 (s3 : Int) 1085102592571150095 = (x3 : Int) := (u64_and_nat s3 1085102592571150095 ls3 (by decide)).trans (by rw [hx3'])
  have k12 : (x3 : Int) / 256 = (a4 : Int) := by omega
  have k13 := u64_add x3 a4 x4 f1 (by omega)
  have k14 : (x4 : Int) / 65536 = (a5 : Int) := by omega
  have k15 := u64_add x4 a5 x5 f2 (by omega)
  have k16 : (x5 : Int) / 4294967296 = (a6 : Int) := by omega
  have k17 := u64_add x5 a6 x6 f3 (by omega)
  have k18 := (i64_and127 x6 f8).trans (by rw [f4])
  have k19 : wrap64 (x6 : Int) = (x6 : Int) := by unfold wrap64; omega
  have K6 := Aside0.mk f8
  clear f1 f2 f3 f4 f5 f6 f7 f8 l1 l2 l3 l4 la1 lx1 la2 lx2 ls3 ha1 ha2 ha3 ha4 ha5 ha6 hb1 hb2 hc1 hc2 hx1 hx1' hx2 hx2' hx3 hx3' hs3 hu
  go_enter Try.func41, Try.ntmps41
  go_wp2
  go_ret
  exact ⟨rfl, Drawn0.refl _⟩
/-- How many of so many hold. -/
def cnt (f : Nat → Bool) : Nat → Nat
  | 0 => 0
  | k + 1 => cnt f k + (if f k then 1 else 0)
theorem cnt_le (f : Nat → Bool) (k : Nat) : cnt f k ≤ k := by
  induction k with
  | zero => simp [cnt]
  | succ k ih => rw [cnt]; split <;> omega
theorem cnt_congr {f g : Nat → Bool} (k : Nat) (h : ∀ x, x < k → f x = g x) : cnt f k = cnt g k := by
  induction k with
  | zero => rfl
  | succ k ih => rw [cnt, cnt, ih (fun x hx => h x (by omega)), h k (by omega)]
theorem cnt_add (f : Nat → Bool) (a b : Nat) : cnt f (a + b) = cnt f a + cnt (fun x => f (a + x)) b := by
  induction b with
  | zero => simp [cnt]
  | succ b ih => rw [← Nat.add_assoc, cnt, cnt, ih, Nat.add_assoc]
theorem pop_cnt : ∀ l : Fin 256, pop l.val = cnt (fun j => l.val.testBit j) 8 := by decide +kernel
theorem popsum_cnt (k u : Nat) : popsum k u = cnt (fun j => u.testBit j) (8 * k) := by
  induction k generalizing u with
  | zero => rfl
  | succ k ih =>
    rw [popsum, ih, Nat.mul_succ, Nat.add_comm (8 * k) 8, cnt_add]
    have h1 := pop_cnt ⟨u % 256, Nat.mod_lt _ (by decide)⟩
    dsimp only at h1
    rw [h1]
    congr 1
    · apply cnt_congr
      intro x hx
      rw [show (256 : Nat) = 2 ^ 8 from rfl, Nat.testBit_mod_two_pow, decide_eq_true hx, Bool.true_and]
    · apply cnt_congr
      intro x hx
      rw [show (256 : Nat) = 2 ^ 8 from rfl, Nat.testBit_div_two_pow, Nat.add_comm]
theorem cnt_none {f : Nat → Bool} (a b : Nat) (h : ∀ x, a ≤ x → f x = false) (hab : a ≤ b) : cnt f b = cnt f a := by
  induction b with
  | zero => rw [show a = 0 by omega]
  | succ b ih =>
    by_cases e : a = b + 1
    · rw [e]
    · rw [cnt, ih (by omega), h b (by omega)]; rfl
theorem cnt_out {T : Nat → Bool} {n : Nat} (h : ∀ x, n ≤ x → T x = false) (k : Nat) : cnt T k ≤ n := by
  rcases Nat.le_total k n with g | g
  · exact Nat.le_trans (cnt_le T k) g
  · rw [cnt_none n k h g]; exact cnt_le T n
theorem words_cnt {w : World} {p q n c : Nat} {T : Nat → Bool} {cells : Array Value} {u : Nat → Nat} (h : AllocAt w p q n T c cells u) (i : Nat) (hi : i < wordsOf n) : popsum 8 (u i) = cnt (fun j => T (64 * i + j)) 64 := by
  rw [popsum_cnt]
  exact cnt_congr _ (fun x hx => h.bit i x hi hx)
theorem Free_nil (w : World) : Calls Try.prog 25 #[.pointer none] w fun e w' => e = .returned (.int .i64 0) ∧ w' = w := by
  go_enter Try.func25, Try.ntmps25
  go_wp2_with (first | (go_at_call 40; (with_reducible refine (made_nil _).mono ?_); rintro e w1 ⟨rfl, rfl⟩))
  go_ret
  exact ⟨rfl, rfl⟩
theorem Free_zero (w : World) (p : Nat) (v : Value) (h : w.heap[p]? = some (.cells #[.int .i64 0, v] 76 (0, 0))) : Calls Try.prog 25 #[.pointer (some ⟨p, 0, none⟩)] w fun e w' => e = .returned (.int .i64 0) ∧ w' = w := by
  go_enter Try.func25, Try.ntmps25
  go_wp2_with (first | (go_at_call 40; (with_reducible refine (made_zero _ p v h).mono ?_); rintro e w1 ⟨rfl, rfl⟩))
  go_ret
  exact ⟨rfl, rfl⟩
theorem Free_calls {w : World} {p q n : Nat} {T : Nat → Bool} (h : IsAlloc w p q n T) (F : Nat) (hF : F + cnt T n = n) : Calls Try.prog 25 #[.pointer (some ⟨p, 0, none⟩)] w fun e w' => e = .returned (.int .i64 (F : Int)) ∧ Drawn0 w w' := by
  have HA := Aside0.mk h
  obtain ⟨c, cells, u, h⟩ := h
  have hc0 : w.cell? ⟨p, 0, none⟩ = some (.int .i64 (n : Int)) := (blk_cell h.self 0).trans rfl
  have hc1 : w.cell? ⟨p, 1, none⟩ = some (.slice (some ⟨q, 0, none⟩) (wordsOf n) c) := (blk_cell h.self 1).trans rfl
  have hn := h.most
  have HH := Aside0.mk h
  have HF := Aside0.mk hF
  have hW : wordsOf n ≤ 16384 := by unfold wordsOf; omega
  clear h hF
  go_enter Try.func25, Try.ntmps25
  go_wp2_with (first | (go_at_call 40; (with_reducible refine (made_calls HA.out).mono ?_); rintro e w1 ⟨rfl, rfl⟩))
  go_loopw [3, 18] (fun vn vi wr => ∃ i m : Nat, i ≤ wordsOf n ∧ vi = .int .i64 i ∧ vn = .int .i64 m ∧ Aside0 (m + cnt T (64 * i) = n) ∧ Drawn0 w1 wr) (fun _ vi _ => wordsOf n - (intOf vi).toNat)
  case atStart => exact ⟨0, n, Nat.zero_le _, rfl, rfl, ⟨rfl⟩, by repeat (first | exact Drawn0.refl _ | apply Drawn0.step)⟩
  case round =>
    obtain ⟨i, m, hi, rfl, rfl, HM, ⟨nd, rfl⟩⟩ := hrel
    by_cases g1 : i < wordsOf n
    · have hcq : w1.cell? ⟨q, i, none⟩ = some (.int .u64 (u i : Int)) := (blk_cell HH.out.words i).trans (HH.out.cell _ g1)
      obtain ⟨P, hP⟩ : ∃ P, popsum 8 (u i) = P := ⟨_, rfl⟩
      have hp : m = (m - P) + P := by
        have h1 := words_cnt HH.out i g1
        have h2 := cnt_add T (64 * i) 64
        have h3 := cnt_out HH.out.out (64 * i + 64)
        have := HM.out
        omega
      have HN := Aside0.mk (show (m - P) + cnt T (64 * (i + 1)) = n by
        have h1 := words_cnt HH.out i g1
        rw [show 64 * (i + 1) = 64 * i + 64 by omega, cnt_add, ← h1, hP]
        have := HM.out
        omega)
      generalize m - P = M at *
      subst hp
      have hM : M + P ≤ n := by have := HM.out; omega
      have HC := Aside0.mk (fun w => ones_calls (u i) (HH.out.lt i) P hP w)
      clear hP
      generalize u i = ui at *
      go_wp2_with (first | (go_at_call 41; (with_reducible refine (HC.out _).mono ?_); rintro e w2 ⟨rfl, ⟨m1, rfl⟩⟩))
      exact ⟨⟨i + 1, M, by omega, by go_num, by go_num, HN, ⟨⟨_, rfl⟩⟩⟩, by simp [intOf]; omega⟩
    · have HE := Aside0.mk (show m = F by
        have h1 := HM.out
        have h2 := HF.out
        have h3 := cnt_none n (64 * i) HH.out.out (by unfold wordsOf at g1; omega)
        omega)
      go_wp2
      go_ret
      exact ⟨by rw [← HE.out]; rfl, ⟨⟨_, rfl⟩⟩⟩
end Go.Proofs.Ytdjpohmgljhhcaa.A
