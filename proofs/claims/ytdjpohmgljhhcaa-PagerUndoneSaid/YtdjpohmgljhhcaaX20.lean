/- A page's sectors written. -/
import Derived.Test.YtdjpohmgljhhcaaX19
import Derived.IntWalk
namespace Go.Proofs.Ytdjpohmgljhhcaa.A
open Go.RowKit Go.Proofs.YtdjpohmgljhhcaaW.PrintWords Go.Proofs.YtdjpohmgljhhcaaW.PrintLast Go.Proofs.YtdjpohmgljhhcaaW.PrintMore
set_option linter.unusedVariables false
set_option linter.unusedSimpArgs false
set_option maxHeartbeats 4000000
set_option maxRecDepth 100000
/-- A slice of bytes, to be read. -/
structure BytesAt (w : World) (A : Option Addr) (len : Nat) (cs : List Value) : Prop where
  len : len = cs.length
  bytes : Bytes cs
  at_ : 0 < cs.length → ∃ g o, A = some ⟨g, o, none⟩ ∧ w.rangeAt g o cs ∧ ∃ (blk : Array Value) (t : TypeId) (f : Nat × Nat), w.heap[g]? = some (.cells blk t f) ∧ Mp t = false
theorem BytesAt.grown {w w' : World} {A : Option Addr} {len : Nat} {cs : List Value} (h : BytesAt w A len cs) (hb : Below w.heap.size w w') : BytesAt w' A len cs where
  len := h.len
  bytes := h.bytes
  at_ := fun h0 => by
    obtain ⟨g, o, e, hr, blk, t, f, h1, h2⟩ := h.at_ h0
    exact ⟨g, o, e, range_below hb hr, blk, t, f, blk_below h1 hb, h2⟩
theorem range_moves {M : TypeId → Bool} {N : Nat} {w w' : World} {g o : Nat} {cs : List Value} {blk : Array Value} {t : TypeId} {f : Nat × Nat} (h : Moves M N w w') (hr : w.rangeAt g o cs) (h1 : w.heap[g]? = some (.cells blk t f)) (h2 : M t = false) : w'.rangeAt g o cs := fun j v hv =>
  (World.cell?_of_block (a := ⟨g, o + j, none⟩) (h.old _ _ _ _ h1 h2)).trans (hr j v hv)
theorem BytesAt.moves {N : Nat} {w w' : World} {A : Option Addr} {len : Nat} {cs : List Value} (h : BytesAt w A len cs) (hm : Moves Mp N w w') : BytesAt w' A len cs where
  len := h.len
  bytes := h.bytes
  at_ := fun h0 => by
    obtain ⟨g, o, e, hr, blk, t, f, h1, h2⟩ := h.at_ h0
    exact ⟨g, o, e, range_moves hm hr h1 h2, blk, t, f, (hm.old _ _ _ _ h1 h2).trans h1, h2⟩
/-- A page's bytes: what is written, with noughts behind. -/
def pad (cs : List Value) : List Value := cs ++ List.replicate (1024 - cs.length) (.int .u8 0)
theorem pad_len (cs : List Value) (h : cs.length ≤ 1024) : (pad cs).length = 1024 := by simp [pad]; omega
theorem pad_bytes {cs : List Value} (h : Bytes cs) : Bytes (pad cs) := h.append (fun v hv => ⟨0, by decide, by simp at hv; exact hv.2⟩)
/-- A page's sector. -/
def cut (cs : List Value) (k : Nat) : List Value := ((pad cs).drop (k * 128)).take 128
theorem cut_sec {cs : List Value} (h : Bytes cs) (hl : cs.length ≤ 1024) (k : Nat) (hk : k < 8) : Sec (cut cs k) :=
  ⟨by simp [cut, pad_len cs hl]; omega, ((pad_bytes h).drop _).take _⟩
/-- The writes of a page. -/
def wrote (fr i : Nat) (cs : List Value) (k : Nat) : List (List Value × Nat) := (List.range k).map fun j => (cut cs j, fr + i * 8 + j)
theorem wrote_succ (fr i : Nat) (cs : List Value) (k : Nat) : wrote fr i cs (k + 1) = wrote fr i cs k ++ [(cut cs k, fr + i * 8 + k)] := by simp [wrote, List.range_succ]
theorem wrote_len (fr i : Nat) (cs : List Value) (k : Nat) : (wrote fr i cs k).length = k := by simp [wrote]
theorem zero83 : ∀ w, (zeroValue 83).run Try.prog w = .ok (.agg (List.replicate 1024 (Value.int .u8 0)).toArray) w := by
  have hi : (Try.prog.info? 83).map (fun i => i.zero) = some (some (.agg (List.replicate 1024 (Value.int .u8 0)).toArray)) := by kernel_rfl
  obtain ⟨i, h1, h2⟩ := Option.map_eq_some_iff.1 hi
  intro w
  simp [zeroValue, typeInfo, h1, h2]
/-- Bytes copied to a page of noughts. -/
theorem copy_page {w : World} {b dCap cap : Nat} {A : Option Addr} {len : Nat} {cs : List Value} {t : TypeId} (h : BlkIs w b (List.replicate 1024 (Value.int .u8 0)) t) (hc : BytesAt w A len cs) (hl : cs.length ≤ 1024) :
    ∃ W, (Builtin.copy_ #[40, 40] 3 #[.slice (some ⟨b, 0, none⟩) 1024 1024, .slice A len cap]).run Try.prog w = .ok (.int .i64 (len : Int)) W ∧ BlkIs W b (pad cs) t ∧ Own b w W := by
  have hlen := hc.len
  subst hlen
  by_cases h0 : 0 < cs.length
  · obtain ⟨g, o, rfl, hr, _⟩ := hc.at_ h0
    obtain ⟨W, h1, h2, h3⟩ := copy_blk (o := 0) (dLen := 1024) (dCap := 1024) (sLen := cs.length) (sCap := cap) h (by
      show cs.length = min cs.length 1024
      omega) hr (by simp; omega) hc.bytes.one
    refine ⟨W, h1, ?_, h3⟩
    have e : List.take 0 (List.replicate 1024 (Value.int .u8 0)) ++ cs ++ List.drop (0 + cs.length) (List.replicate 1024 (Value.int .u8 0)) = pad cs := by rw [List.take_zero, List.nil_append, Nat.zero_add, List.drop_replicate]; rfl
    rw [← e]
    exact h2
  · have e : cs = [] := List.eq_nil_of_length_eq_zero (by omega)
    subst e
    refine ⟨w, ?_, ?_, Own.refl _ _⟩
    · exact run_copy_none (P := Try.prog) w 40 40 3 5 _ _ 1024 1024 0 cap Try.underlying40 size5 rfl
    · exact h
theorem PagerAt.wrote {N : Nat} {w W : World} {p a q d kq sq c fr n dn : Nat} {S : Nat → Nat} {K : Nat → List Value} {P P' : List (List Value × Nat)} (h : PagerAt N w p a q d kq sq c fr n dn S K P) (hm : Moves Md N w W) (hd : IsDisk N W d kq dn K P') : PagerAt N W p a q d kq sq c fr n dn S K P' where
  self := (hm.old _ _ _ _ h.self rfl).trans h.self
  alloc := h.alloc.moves hm rfl rfl
  disk := hd
  states := h.states.moves hm rfl
  vals := h.vals
  bq := h.bq
  bs := h.bs
  geo := h.geo
theorem slice83 (w : World) (b k : Nat) (hk : k < 8) : (Instr.sliceAt 83 (.pointer (some ⟨b, 0, none⟩)) (some (.int .i64 ((k : Int) * 128))) (some (.int .i64 (((k : Int) + 1) * 128))) none).run Try.prog w = .ok (.slice (some ⟨b, k * 128, none⟩) 128 (1024 - k * 128)) w := by
  have h : k = 0 ∨ k = 1 ∨ k = 2 ∨ k = 3 ∨ k = 4 ∨ k = 5 ∨ k = 6 ∨ k = 7 := by omega
  rcases h with rfl | rfl | rfl | rfl | rfl | rfl | rfl | rfl <;> rfl
/-- A pager's struct and its disk, whatever its pages are. -/
structure PCore (N : Nat) (w : World) (p a d kq sq c fr n dn : Nat) (K : Nat → List Value) (P : List (List Value × Nat)) : Prop where
  self : w.heap[p]? = some (.cells #[.pointer (some ⟨a, 0, none⟩), .pointer (some ⟨d, 0, none⟩), .int .i64 (fr : Int), .slice (some ⟨sq, 0, none⟩) n c] 50 (0, 0))
  disk : IsDisk N w d kq dn K P
  geo : fr + n * 8 ≤ dn
theorem PagerAt.core {N : Nat} {w : World} {p a q d kq sq c fr n dn : Nat} {S : Nat → Nat} {K : Nat → List Value} {P : List (List Value × Nat)} (h : PagerAt N w p a q d kq sq c fr n dn S K P) : PCore N w p a d kq sq c fr n dn K P := ⟨h.self, h.disk, h.geo⟩
theorem PCore.grown {N : Nat} {w w' : World} {p a d kq sq c fr n dn : Nat} {K : Nat → List Value} {P : List (List Value × Nat)} (h : PCore N w p a d kq sq c fr n dn K P) (hb : Below w.heap.size w w') : PCore N w' p a d kq sq c fr n dn K P := ⟨blk_below h.self hb, h.disk.grown hb, h.geo⟩
theorem PCore.wrote {N : Nat} {w W : World} {p a d kq sq c fr n dn : Nat} {K : Nat → List Value} {P P' : List (List Value × Nat)} (h : PCore N w p a d kq sq c fr n dn K P) (hm : Moves Md N w W) (hd : IsDisk N W d kq dn K P') : PCore N W p a d kq sq c fr n dn K P' := ⟨(hm.old _ _ _ _ h.self rfl).trans h.self, hd, h.geo⟩
theorem over_calls {N : Nat} {w : World} {p a d kq sq c fr n dn : Nat} {K : Nat → List Value} {P : List (List Value × Nat)} (h : PCore N w p a d kq sq c fr n dn K P) (hP : P.length ≤ 90000) (i : Nat) (hi : i < n) (A : Option Addr) (len cap : Nat) (cs : List Value) (hb : BytesAt w A len cs) (hl : cs.length ≤ 1024) (x : Int) (hx : (i : Int) = x) :
    Calls Try.prog 28 #[.pointer (some ⟨p, 0, none⟩), .int .i64 x, .slice A len cap] w fun e w' => e = .returned (.int .i64 0) ∧ IsDisk N w' d kq dn K (P ++ wrote fr i cs 8) ∧ Moves Md N w w' := by
  subst hx
  have hdl := h.disk.lt.2
  have hge := h.geo
  have hnn : n ≤ 16384 := by omega
  obtain ⟨Z, hZ⟩ : ∃ Z : Array Value, (List.replicate 1024 (Value.int .u8 0)).toArray = Z := ⟨_, rfl⟩
  have hz83 := zero83
  rw [hZ] at hz83
  have hZs : Z.size = 1024 := by rw [← hZ]; simp only [List.size_toArray, List.length_replicate]
  have hN := h.disk.lt.1
  have hb0 : Below w.heap.size w (w.alloc (.cells Z 83)) := below_alloc (Below.refl _ _) _
  have hblk : BlkIs (w.alloc (.cells Z 83)) w.heap.size (List.replicate 1024 (Value.int .u8 0)) 83 := by
    have := blk_alloc w Z 83
    rw [← hZ] at this ⊢
    exact this
  obtain ⟨W2, hcp, hb2, ho2⟩ := copy_page (dCap := 1024) (cap := cap) hblk (hb.grown hb0) hl
  have hbw2 : Below w.heap.size w W2 := hb0.trans (ho2.below (Nat.le_refl _) (by simp))
  have HP2 := Aside0.mk (h.grown hbw2)
  have HM2 := Aside0.mk (Moves.of_below (M := Md) hbw2 hN)
  have HB2 := Aside0.mk hb2
  have HC := Aside0.mk (fun k hk => cut_sec hb.bytes hl k hk)
  have HI := Aside0.mk hi
  have HL := Aside0.mk (show len = cs.length ∧ cs.length ≤ 1024 from ⟨hb.len, hl⟩)
  have HG := Aside0.mk h.geo
  have hpl := pad_len cs hl
  have HPL := Aside0.mk hpl
  clear hZ h hb hb0 hblk hb2 ho2 hbw2 hN hpl
  go_enter Try.func28, Try.ntmps28
  go_wp2
  go_loopw [14] (fun v wr => ∃ k : Nat, v = .int .i64 (k : Int) ∧ k ≤ 8 ∧ Aside0 (PCore N wr p a d kq sq c fr n dn K (P ++ wrote fr i cs k)) ∧ Aside0 (Moves Md N w wr) ∧ Aside0 (BlkIs wr w.heap.size (pad cs) 83)) (fun v _ => 8 - (intOf v).toNat)
  case atStart => exact ⟨0, rfl, by omega, ⟨by rw [show wrote fr i cs 0 = [] from rfl, List.append_nil]; exact HP2.out⟩, HM2, HB2⟩
  case round =>
    obtain ⟨k, rfl, hk, HP, HM, HB⟩ := hrel
    by_cases g1 : k < 8
    · have k0 : (0 : Int) ≤ (k : Int) := by omega
      have k1 : (k : Int) < 8 := by omega
      have hc1 : wr.cell? ⟨p, 1, none⟩ = some (.pointer (some ⟨d, 0, none⟩)) := (blk_cell HP.out.self 1).trans rfl
      have hc2 : wr.cell? ⟨p, 2, none⟩ = some (.int .i64 (fr : Int)) := (blk_cell HP.out.self 2).trans rfl
      have hsl := slice83 wr w.heap.size k g1
      have i0 : (0 : Int) ≤ (i : Int) := by omega
      have i1 : (i : Int) < 16384 := by have := HI.out; omega
      have f1 : (fr : Int) ≤ 16384 := by have := HG.out; omega
      have HPd := Aside0.mk (HP.out.grown (below_drew1 (Below.refl _ wr)))
      have HS := Aside0.mk (HC.out k g1)
      have HR := Aside0.mk (show wr.drew.rangeAt w.heap.size (k * 128) (cut cs k) from fun j v hv => by
        refine (blk_cell (show wr.drew.heap[w.heap.size]? = some (.cells (pad cs).toArray 83 (0, 0)) from HB.out) _).trans ?_
        have hj : j < 128 := by
          have := (List.getElem?_eq_some_iff.1 hv).1
          rwa [HS.out.len] at this
        rw [cut, List.getElem?_take_of_lt hj, List.getElem?_drop] at hv
        simpa using hv)
      have HPL2 := Aside0.mk (show (P ++ wrote fr i cs k).length ≤ 100000 by rw [List.length_append, wrote_len]; omega)
      have HIN := Aside0.mk (show fr + i * 8 + k < dn by have := HI.out; have := HG.out; omega)
      have s1 : IntKind.i64.wrap ((i : Int) * 8) = (i : Int) * 8 := IntWalk.i64_in _ (by omega)
      have s2 : IntKind.i64.wrap ((fr : Int) + (i : Int) * 8) = (fr : Int) + (i : Int) * 8 := IntWalk.i64_in _ (by omega)
      have s3 : IntKind.i64.wrap ((fr : Int) + (i : Int) * 8 + (k : Int)) = (fr : Int) + (i : Int) * 8 + (k : Int) := IntWalk.i64_in _ (by omega)
      have HX := Aside0.mk (show ((fr + i * 8 + k : Nat) : Int) = (fr : Int) + (i : Int) * 8 + (k : Int) by omega)
      go_wp2
      go_region_held3 (fun w' => w'.cell? ⟨p, 1, none⟩ = some (.pointer (some ⟨d, 0, none⟩)) ∧ w'.cell? ⟨p, 2, none⟩ = some (.int .i64 (fr : Int))) (go_keep) (first | (go_at_call 47; (with_reducible refine (diskWrite_calls HPd.out.disk HPL2.out (fr + i * 8 + k) HIN.out w.heap.size (k * 128) (1024 - k * 128) (cut cs k) HS.out HR.out _ HX.out).mono ?_); rintro e w2 ⟨rfl, hd2, hm2⟩; have HP3 := Aside0.mk (HPd.out.wrote hm2 hd2); have HM3 := Aside0.mk hm2; have hs2 := (hm2.old _ _ _ _ HPd.out.self rfl).trans HPd.out.self; have hc12 : w2.cell? ⟨p, 1, none⟩ = some (.pointer (some ⟨d, 0, none⟩)) := (blk_cell hs2 1).trans rfl; have hc22 : w2.cell? ⟨p, 2, none⟩ = some (.int .i64 (fr : Int)) := (blk_cell hs2 2).trans rfl; clear hd2 hm2 hs2))
      clear s1 s2 s3
      have HB3 := Aside0.mk (show BlkIs w2 w.heap.size (pad cs) 83 from (HM3.out.old _ _ _ _ (show wr.drew.heap[w.heap.size]? = some (.cells (pad cs).toArray 83 (0, 0)) from HB.out) rfl).trans HB.out)
      have HM4 := Aside0.mk (HM.out.trans ((Moves.of_below (M := Md) (below_drew1 (Below.refl _ wr)) HP.out.disk.lt.1).trans HM3.out))
      have HP4 := Aside0.mk (show PCore N w2 p a d kq sq c fr n dn K (P ++ wrote fr i cs (k + 1)) by rw [wrote_succ, ← List.append_assoc]; exact HP3.out)
      go_wp2
      exact ⟨⟨k + 1, by go_num, by omega, HP4, HM4, HB3⟩, by simp [intOf]; omega⟩
    · obtain rfl : k = 8 := by omega
      go_wp2
      go_ret
      exact ⟨rfl, HP.out.disk, HM.out⟩
end Go.Proofs.Ytdjpohmgljhhcaa.A
