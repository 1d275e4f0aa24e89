/- Acts, few, begun. -/
import Derived.Test.YtdjpohmgljhhcaaX26
namespace Go.Proofs.Ytdjpohmgljhhcaa.A
open Go.RowKit Go.Proofs.YtdjpohmgljhhcaaW.PrintWords Go.Proofs.YtdjpohmgljhhcaaW.PrintLast Go.Proofs.YtdjpohmgljhhcaaW.PrintMore
set_option linter.unusedVariables false
set_option linter.unusedSimpArgs false
set_option maxHeartbeats 4000000
set_option maxRecDepth 100000
/-- A slice of acts, to be read; its blocks are below a bound. -/
structure ActsIn (w : World) (N : Nat) (A : Option Addr) (len : Nat) : Prop where
  cell : ∀ j, j < len → ∃ g o, A = some ⟨g, o, none⟩ ∧ g < N ∧ ∃ (kd i : Int) (s : ByteArray) (B : Option Addr) (l c : Nat), l < 9223372036854775808 ∧ l ≤ c ∧ IntsIn w N B l ∧ w.rangeAt g (o + j * 4) [.int .i64 kd, .int .i64 i, .string s, .slice B l c]
theorem ActsIn.low {w w' : World} {N : Nat} {A : Option Addr} {len : Nat} (h : ActsIn w N A len) (hb : Below N w w') : ActsIn w' N A len where
  cell := by
    intro j hj
    obtain ⟨g, o, e, hg, kd, i, s, B, l, c, h1, h2, h3, h4⟩ := h.cell j hj
    exact ⟨g, o, e, hg, kd, i, s, B, l, c, h1, h2, h3.low hb (Nat.le_refl _), fun x v hv => (hb.cell (p := ⟨g, o + j * 4 + x, none⟩) (by simp only; omega)).trans (h4 x v hv)⟩
theorem size36 : (Try.prog.info? 36).map (·.size) = some 4 := by kernel_rfl
/-- What few tells. -/
def FewSays (len : Nat) (w : World) (e : Ending) (w' : World) : Prop := ∃ b : Bool, e = .returned (.bool b) ∧ w = w' ∧ (b = true → len ≤ 100)
theorem few_calls (w : World) (N : Nat) (A : Option Addr) (len cap : Nat) (hl : len < 9223372036854775808) (h : ActsIn w N A len) : Calls Try.prog 7 #[.slice A len cap] w (FewSays len w) := by
  have H := Aside0.mk h
  have HL := Aside0.mk hl
  clear h
  by_cases g0 : (100 : Int) < (len : Int)
  · go_enter Try.func7, Try.ntmps7
    go_wp2
    go_ret
    exact ⟨false, rfl, rfl, fun h => by simp at h⟩
  · have HG := Aside0.mk (show len ≤ 100 by omega)
    go_enter Try.func7, Try.ntmps7
    go_wp2
    go_loopw [3] (fun i wr => ∃ j : Nat, i = .int .i64 j ∧ j ≤ len ∧ wr = w) (fun i _ => len - (intOf i).toNat)
    case atStart => exact ⟨0, rfl, by omega, rfl⟩
    case round =>
      obtain ⟨j, rfl, hj, rfl⟩ := hrel
      by_cases g1 : j < len
      · obtain ⟨g, o, rfl, _, kd, i, s, B, l, c, hl1, hl2, _, hr⟩ := H.out.cell j g1
        have hc2 := hr 2 _ rfl
        have hc3 := hr 3 _ rfl
        have i0 : (0 : Int) ≤ (j : Int) := by omega
        have i1 : (j : Int) < (len : Int) := by omega
        clear hr
        by_cases g2 : (5000 : Int) < ((s.size : Nat) : Int)
        · go_wp2
          go_ret
          exact ⟨false, rfl, rfl, fun h => by simp at h⟩
        · by_cases g3 : (100 : Int) < (l : Int)
          · go_wp2
            go_ret
            exact ⟨false, rfl, rfl, fun h => by simp at h⟩
          · go_wp2
            exact ⟨⟨j + 1, by go_num, by omega, trivial⟩, by simp [intOf]; omega⟩
      · go_wp2
        go_ret
        exact ⟨true, rfl, rfl, fun _ => HG.out⟩
/-- What begun leaves. -/
def Begun (N : Nat) (w : World) (e : Ending) (w' : World) : Prop := ∃ p d S K P, e = .returned (.tuple #[.pointer (some ⟨p, 0, none⟩), .pointer (some ⟨d, 0, none⟩)]) ∧ IsPager N w' p d 3 8 70 S K P ∧ Below N w w' ∧ P.length ≤ 800
theorem begun_calls (w : World) (N : Nat) (hN : N ≤ w.heap.size) (A : Option Addr) (len cap : Nat) (hl : len < 9223372036854775808) (h : ActsIn w N A len) : Calls Try.prog 6 #[.slice A len cap] w (Begun N w) := by
  have HA := Aside0.mk h
  have HL := Aside0.mk hl
  clear h
  go_enter Try.func6, Try.ntmps6
  go_wp2_with fail
  (with_reducible refine (diskNew_calls (N := N) 70 (by decide) (by decide) 70 rfl w hN).mono ?_)
  rintro e w1 ⟨d, kq, rfl, hd, hb⟩
  have HD1 := Aside0.mk hd
  have HB1 := Aside0.mk hb
  clear hd hb
  generalize hK : (fun _ : Nat => zeroSec) = K at HD1
  clear hK
  go_wp2_with fail
  (with_reducible refine (pagerNew_calls HD1.out 3 8 (by decide) (by decide) 3 8 rfl rfl).mono ?_)
  rintro e w2 ⟨p, rfl, hp, hb⟩
  have H2 := Aside0.mk hp
  have HB2 := Aside0.mk ((HB1.out.trans (hb.mono HB1.out.size)).mono hN)
  clear hp hb
  go_wp2
  go_loopw [8] (fun v wr => ∃ j : Nat, v = .int .i64 (j : Int) ∧ j ≤ len ∧ j ≤ 100 ∧ Aside0 (∃ S K P, IsPager N wr p d 3 8 70 S K P ∧ P.length ≤ 8 * j) ∧ Aside0 (Below N w wr)) (fun v _ => 100 - (intOf v).toNat)
  case atStart => exact ⟨0, rfl, by omega, by omega, ⟨_, _, _, H2.out, by simp⟩, HB2⟩
  case round =>
    obtain ⟨j, rfl, hj, hj2, ⟨S1, K1, P1, hp, hpl⟩, HB⟩ := hrel
    have HP := Aside0.mk hp
    have HPL := Aside0.mk hpl
    clear hp hpl
    by_cases g1 : j < len
    · have i0 : (0 : Int) ≤ (j : Int) := by omega
      have i1 : (j : Int) < (len : Int) := by omega
      by_cases g2 : j < 100
      · have i2 : (j : Int) < 100 := by omega
        obtain ⟨g, o, rfl, _, kd, i, s, B, l, c, hl1, hl2, hin, hr⟩ := (HA.out.low HB.out).cell j g1
        have HIN := Aside0.mk hin
        have HRG := Aside0.mk hr
        have HL1 := Aside0.mk hl1
        have HL2 := Aside0.mk hl2
        have HEL := Aside0.mk (show (Try.prog.info? 36).map (·.size) = some [Value.int .i64 kd, Value.int .i64 i, Value.string s, Value.slice B l c].length from size36)
        have HP9 := Aside0.mk (show P1.length ≤ 90000 by have := HPL.out; omega)
        clear hin hr hl1 hl2
        go_wp2_with (first | (with_reducible refine wpList_load_mid rfl 36 (.tmp 39) rfl g (o + j * 4) rfl [.int .i64 kd, .int .i64 i, .string s, .slice B l c] _ HRG.out Try.underlying36 rfl HEL.out ?_) | (go_at_call 12; (with_reducible refine (play_calls HP.out HP9.out kd i s B l c HL1.out HL2.out HIN.out).mono ?_); rintro e w3 ⟨S3, K3, P3, rfl, hp, hl, hm, _⟩; have HP3 := Aside0.mk hp; have HPL3 := Aside0.mk hl; have HB3 := Aside0.mk (HB.out.trans hm.below); clear hp hl hm))
        exact ⟨⟨j + 1, by go_num, by omega, by omega, ⟨S3, K3, P3, HP3.out, by have := HPL3.out; have := HPL.out; omega⟩, HB3⟩, by simp [intOf]; omega⟩
      · have i2 : ¬ (j : Int) < 100 := by omega
        go_wp2
        go_ret2
        exact ⟨p, d, S1, K1, P1, rfl, HP.out, HB.out, by have := HPL.out; omega⟩
    · have i1 : ¬ (j : Int) < (len : Int) := by omega
      go_wp2
      go_ret2
      exact ⟨p, d, S1, K1, P1, rfl, HP.out, HB.out, by have := HPL.out; omega⟩
end Go.Proofs.Ytdjpohmgljhhcaa.A
