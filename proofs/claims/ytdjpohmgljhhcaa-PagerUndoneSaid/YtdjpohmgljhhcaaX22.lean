/- A page read. -/
import Derived.Test.YtdjpohmgljhhcaaX21
namespace Go.Proofs.Ytdjpohmgljhhcaa.A
open Go.RowKit Go.Proofs.YtdjpohmgljhhcaaW.PrintWords Go.Proofs.YtdjpohmgljhhcaaW.PrintLast Go.Proofs.YtdjpohmgljhhcaaW.PrintMore
set_option linter.unusedVariables false
set_option linter.unusedSimpArgs false
set_option maxHeartbeats 4000000
set_option maxRecDepth 100000
/-- A slice of bytes of the call's own. -/
def OwnBytes (w : World) (base : Nat) (v : Value) (cs : List Value) : Prop := w.ownsRow base 5 1 v cs.length cs
theorem info5 : (Try.prog.info? 5).map (fun i => (i.zero, i.size, i.bytes)) = some (some (.int .u8 0), 1, 1) := by kernel_rfl
theorem bytes_append (W : World) (base : Nat) (v : Value) (xs : List Value) (b cap : Nat) (cs : List Value) (ho : OwnBytes W base v xs) (hbase : base ≤ W.heap.size) (hl : xs.length ≤ 100000) (hs : Sec cs) (hb : W.rangeAt b 0 cs) :
    ∃ v1 w1, (Builtin.append_ #[40, 40] 40 #[v, .slice (some ⟨b, 0, none⟩) 128 cap]).run Try.prog W = .ok v1 w1 ∧ OwnBytes w1 base v1 (xs ++ cs) ∧ Below base W w1 := by
  obtain ⟨i, h1, h2⟩ := Option.map_eq_some_iff.1 info5
  simp only [Prod.mk.injEq] at h2
  obtain ⟨hz, hsz, hy⟩ := h2
  obtain ⟨v', w', hr, hown, hg, _⟩ := run_append_own (P := Try.prog) W base 40 40 5 i (.int .u8 0) 1 1 Try.underlying40 h1 hz hsz hy rfl (by decide) v xs.length xs ho ⟨b, 0, none⟩ 128 cap cs (by rw [hs.len])
    (by
      intro j y hj
      rw [Addr.add_mid]
      exact hb j y hj)
    hs.bytes.one
    (by simp [maxLen]; omega) (by omega) hbase
  refine ⟨v', w', hr, ?_, ⟨hg.os, hg.tape, hg.output, hg.size, fun j hj => hg.block j (by omega) (fun e => ?_)⟩⟩
  · unfold OwnBytes
    rw [List.length_append, hs.len]
    exact hown
  · have := World.ownsRow.lt ho j e.symm
    omega
/-- What a page's first sectors have. -/
def pageOf (K : Nat → List Value) (P : List (List Value × Nat)) (fr i : Nat) : Nat → List Value
  | 0 => []
  | k + 1 => pageOf K P fr i k ++ secOf K P (fr + i * 8 + k)
/-- What Read of a page tells. -/
def RdSays (n fr : Nat) (S : Nat → Nat) (K : Nat → List Value) (P : List (List Value × Nat)) (i : Int) (w : World) (e : Ending) (w' : World) : Prop :=
  (0 ≤ i ∧ i < (n : Int) ∧ S i.toNat ≠ 0 ∧ ∃ v, e = .returned (.tuple #[v, .int .i64 0]) ∧ OwnBytes w' w.heap.size v (pageOf K P fr i.toNat 8) ∧ Below w.heap.size w w') ∨
  (¬ (0 ≤ i ∧ i < (n : Int) ∧ S i.toNat ≠ 0) ∧ ∃ er : Int, e = .returned (.tuple #[.slice none 0 0, .int .i64 er]) ∧ w = w')
theorem IsDisk.secs {N : Nat} {w : World} {d kq n : Nat} {K : Nat → List Value} {P : List (List Value × Nat)} (h : IsDisk N w d kq n K P) (i : Nat) (hi : i < n) : Sec (secOf K P i) := by
  obtain ⟨pv, h⟩ := h
  exact secOf_sec (h.sec i hi) (fun x hx => (h.psec x hx).1)
theorem pageOf_len {N : Nat} {w : World} {d kq dn : Nat} {K : Nat → List Value} {P : List (List Value × Nat)} (h : IsDisk N w d kq dn K P) (fr i k : Nat) (hk : fr + i * 8 + k ≤ dn) : (pageOf K P fr i k).length = k * 128 := by
  induction k with
  | zero => rfl
  | succ k ih =>
    rw [pageOf, List.length_append, ih (by omega), (h.secs _ (by omega)).len]
    omega
theorem Read_calls {N : Nat} {w : World} {p d fr n dn : Nat} {S : Nat → Nat} {K : Nat → List Value} {P : List (List Value × Nat)} (h : IsPager N w p d fr n dn S K P) (hP : P.length ≤ 100000) (i : Int) :
    Calls Try.prog 16 #[.pointer (some ⟨p, 0, none⟩), .int .i64 i] w (RdSays n fr S K P i w) := by
  have H := Aside0.mk h
  have HN := Aside0.mk h.lt
  have hrg := h.range
  by_cases g : 0 ≤ i ∧ i < (n : Int)
  · obtain ⟨I, rfl⟩ : ∃ I : Nat, (I : Int) = i := ⟨i.toNat, by omega⟩
    have HI := Aside0.mk (show I < n by omega)
    have HBB := Aside0.mk (show true = decide (0 ≤ (I : Int) ∧ (I : Int) < (n : Int)) from (decide_eq_true g).symm)
    obtain ⟨a, q, kq, sq, c, h⟩ := h
    have HP := Aside0.mk h
    have hc3 : w.cell? ⟨p, 3, none⟩ = some (.slice (some ⟨sq, 0, none⟩) n c) := (blk_cell h.self 3).trans rfl
    have hst1 := (h.states.cell I HI.out).1
    have i0 : (0 : Int) ≤ (I : Int) := by omega
    have i1 : (I : Int) < (n : Int) := by omega
    have f1 : (fr : Int) ≤ 16384 := by omega
    have f2 : (n : Int) ≤ 16384 := by omega
    have HC := Aside0.mk h.core
    have HG := Aside0.mk h.geo
    clear h hrg
    obtain ⟨s, hs⟩ : ∃ s, S I = s := ⟨_, rfl⟩
    have HS := Aside0.mk hs
    rw [hs] at hst1
    by_cases g2 : s = 0
    · have HT := Aside0.mk (show false = decide (s ≠ 0) by rw [g2]; rfl)
      have HNO := Aside0.mk (show ¬ (0 ≤ (I : Int) ∧ (I : Int) < (n : Int) ∧ S (I : Int).toNat ≠ 0) by rw [Int.toNat_natCast, HS.out]; exact fun h => h.2.2 g2)
      clear hs g2 g
      go_enter Try.func16, Try.ntmps16
      go_wp2_with (first | (go_at_call 23; (with_reducible refine (pmade_calls H.out).mono ?_); rintro e w1 ⟨rfl, rfl⟩) | (go_at_call 30; (with_reducible refine (there_calls H.out _ true HBB.out).mono ?_); rintro e w1 ⟨rfl, rfl⟩) | (go_at_call 31; (with_reducible refine (taken_calls _ s false HT.out _ rfl).mono ?_); rintro e w1 ⟨rfl, rfl⟩))
      go_ret2
      exact Or.inr ⟨HNO.out, 7, rfl, rfl⟩
    · have HT := Aside0.mk (show true = decide (s ≠ 0) from (decide_eq_true g2).symm)
      have HYES := Aside0.mk (show S (I : Int).toNat ≠ 0 by rw [Int.toNat_natCast, HS.out]; exact g2)
      clear hs g2 g
      go_enter Try.func16, Try.ntmps16
      go_wp2_with (first | (go_at_call 23; (with_reducible refine (pmade_calls H.out).mono ?_); rintro e w1 ⟨rfl, rfl⟩) | (go_at_call 30; (with_reducible refine (there_calls H.out _ true HBB.out).mono ?_); rintro e w1 ⟨rfl, rfl⟩) | (go_at_call 31; (with_reducible refine (taken_calls _ s true HT.out _ rfl).mono ?_); rintro e w1 ⟨rfl, rfl⟩))
      go_loopw [6, 29] (fun v6 v wr => ∃ k : Nat, v = .int .i64 (k : Int) ∧ k ≤ 8 ∧ Aside0 (OwnBytes wr w.heap.size v6 (pageOf K P fr I k)) ∧ Aside0 (Below w.heap.size w wr)) (fun _ v _ => 8 - (intOf v).toNat)
      case atStart => exact ⟨0, rfl, by omega, ⟨World.ownsRow_nil _ _ _ _⟩, ⟨Below.refl _ _⟩⟩
      case round =>
        obtain ⟨k, rfl, hk, HO, HB⟩ := hrel
        by_cases g1 : k < 8
        · have k0 : (0 : Int) ≤ (k : Int) := by omega
          have k1 : (k : Int) < 8 := by omega
          have HCr := Aside0.mk (HC.out.grown HB.out)
          have hc1 : wr.cell? ⟨p, 1, none⟩ = some (.pointer (some ⟨d, 0, none⟩)) := (blk_cell HCr.out.self 1).trans rfl
          have hc2 : wr.cell? ⟨p, 2, none⟩ = some (.int .i64 (fr : Int)) := (blk_cell HCr.out.self 2).trans rfl
          have HCd := Aside0.mk (HCr.out.grown (below_drew1 (Below.refl _ wr)))
          have HIN := Aside0.mk (show fr + I * 8 + k < dn by have := HI.out; have := HG.out; omega)
          have HSEC := Aside0.mk (HC.out.disk.secs (fr + I * 8 + k) HIN.out)
          have HLN := Aside0.mk (show (pageOf K P fr I k).length ≤ 100000 by rw [pageOf_len HC.out.disk fr I k (by have := HIN.out; omega)]; omega)
          have s1 : IntKind.i64.wrap ((I : Int) * 8) = (I : Int) * 8 := IntWalk.i64_in _ (by omega)
          have s2 : IntKind.i64.wrap ((fr : Int) + (I : Int) * 8) = (fr : Int) + (I : Int) * 8 := IntWalk.i64_in _ (by omega)
          have s3 : IntKind.i64.wrap ((fr : Int) + (I : Int) * 8 + (k : Int)) = (fr : Int) + (I : Int) * 8 + (k : Int) := IntWalk.i64_in _ (by omega)
          have HX := Aside0.mk (show ((fr + I * 8 + k : Nat) : Int) = (fr : Int) + (I : Int) * 8 + (k : Int) by omega)
          go_wp2
          go_region_held3 (fun w' => w'.cell? ⟨p, 1, none⟩ = some (.pointer (some ⟨d, 0, none⟩)) ∧ w'.cell? ⟨p, 2, none⟩ = some (.int .i64 (fr : Int))) (go_keep) (first | (go_at_call 32; (with_reducible refine (diskRead_calls HCd.out.disk hP (fr + I * 8 + k) HIN.out _ HX.out).mono ?_); rintro e w2 ⟨g2, rfl, hg2, hb2, hbw2⟩; have HB2 := Aside0.mk hb2; have HBW2 := Aside0.mk hbw2; have hs2 := blk_below HCd.out.self hbw2; have hc12 : w2.cell? ⟨p, 1, none⟩ = some (.pointer (some ⟨d, 0, none⟩)) := (blk_cell hs2 1).trans rfl; have hc22 : w2.cell? ⟨p, 2, none⟩ = some (.int .i64 (fr : Int)) := (blk_cell hs2 2).trans rfl; clear hg2 hb2 hbw2 hs2))
          clear s1 s2 s3
          have hb3 : Below wr.heap.size wr w2 := (below_drew1 (Below.refl _ wr)).trans HBW2.out
          obtain ⟨v1, w3, hr3, ho3, hb4⟩ := bytes_append w2 w.heap.size u6 (pageOf K P fr I k) g2 128 (secOf K P (fr + I * 8 + k)) (own_below HO.out hb3) (by have := HB.out.size; have := hb3.size; omega) HLN.out HSEC.out HB2.out.range
          have HR3 := Aside0.mk hr3
          have HO3 := Aside0.mk ho3
          have HB4 := Aside0.mk ((HB.out.trans (hb3.mono HB.out.size)).trans hb4)
          clear hr3 ho3 hb4 hb3
          go_wp2_with (first | ((with_reducible refine gate_dst (N := 54) rfl ?_); refine append_event rfl (.tmp 52) (.tmp 53) 40 rfl rfl rfl HR3.out ?_))
          exact ⟨⟨k + 1, by go_num, by omega, HO3, HB4⟩, by simp [intOf]; omega⟩
        · obtain rfl : k = 8 := by omega
          go_wp2
          go_ret2
          exact Or.inl ⟨i0, i1, HYES.out, _, rfl, by rw [Int.toNat_natCast]; exact HO.out, HB.out⟩
  · have HBB := Aside0.mk (show false = decide (0 ≤ i ∧ i < (n : Int)) from (decide_eq_false g).symm)
    have HNO := Aside0.mk (show ¬ (0 ≤ i ∧ i < (n : Int) ∧ S i.toNat ≠ 0) from fun h => g ⟨h.1, h.2.1⟩)
    clear g h
    go_enter Try.func16, Try.ntmps16
    go_wp2_with (first | (go_at_call 23; (with_reducible refine (pmade_calls H.out).mono ?_); rintro e w1 ⟨rfl, rfl⟩) | (go_at_call 30; (with_reducible refine (there_calls H.out _ false HBB.out).mono ?_); rintro e w1 ⟨rfl, rfl⟩))
    go_ret2
    exact Or.inr ⟨HNO.out, 6, rfl, rfl⟩
end Go.Proofs.Ytdjpohmgljhhcaa.A
