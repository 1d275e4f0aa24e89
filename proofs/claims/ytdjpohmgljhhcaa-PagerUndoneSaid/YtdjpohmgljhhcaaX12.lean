/- A sector written. -/
import Derived.Test.YtdjpohmgljhhcaaX11
import Derived.Laws.CopyOwn
import Derived.Deep.RegionHeldLaw
namespace Go.Proofs.Ytdjpohmgljhhcaa.A
open Go.RowKit Go.Proofs.YtdjpohmgljhhcaaW.PrintWords Go.Proofs.YtdjpohmgljhhcaaW.PrintLast Go.Proofs.YtdjpohmgljhhcaaW.PrintMore
set_option linter.unusedVariables false
set_option linter.unusedSimpArgs false
set_option maxHeartbeats 4000000
set_option maxRecDepth 100000
theorem Bytes.one {cs : List Value} (h : Bytes cs) : ∀ v ∈ cs, v.oneCell' = true := by
  intro v hv
  obtain ⟨b, _, rfl⟩ := h v hv
  rfl
theorem Bytes.append {a b : List Value} (h : Bytes a) (k : Bytes b) : Bytes (a ++ b) := fun v hv => (List.mem_append.1 hv).elim (h v) (k v)
theorem Bytes.take {a : List Value} (h : Bytes a) (n : Nat) : Bytes (a.take n) := fun v hv => h v (List.mem_of_mem_take hv)
theorem Bytes.drop {a : List Value} (h : Bytes a) (n : Nat) : Bytes (a.drop n) := fun v hv => h v (List.mem_of_mem_drop hv)
/-- A whole block known. -/
def BlkIs (w : World) (b : Nat) (cs : List Value) (t : TypeId) : Prop := w.heap[b]? = some (.cells cs.toArray t (0, 0))
theorem BlkIs.range {w : World} {b : Nat} {cs : List Value} {t : TypeId} (h : BlkIs w b cs t) : w.rangeAt b 0 cs := fun j v hv => by
  refine (blk_cell h _).trans ?_
  simpa using hv
theorem BlkIs.there {w : World} {b : Nat} {cs : List Value} {t : TypeId} (h : BlkIs w b cs t) (n : Nat) (hn : n ≤ cs.length) : w.there b 0 n := fun j hj => by
  constructor
  · rw [blk_cell h]
    simp
    omega
  · unfold BlkIs at h
    simp [World.frozen?, h]
theorem setCells_at (b : Nat) (vs : List Value) : ∀ (w : World) (o : Nat) (A : List Value) (t : TypeId), BlkIs w b A t → o + vs.length ≤ A.length → BlkIs (w.setCells b o vs) b (A.take o ++ (vs ++ A.drop (o + vs.length))) t := by
  induction vs with
  | nil => intro w o A t h _; simpa [World.setCells] using h
  | cons v l ih =>
    intro w o A t h hl
    simp at hl
    have h1 : BlkIs (w.setCell ⟨b, o, none⟩ v) b (A.set o v) t := by
      unfold BlkIs
      rw [blk_setCell_self h]
      simp
    have h2 := ih _ (o + 1) (A.set o v) t h1 (by simp; omega)
    have e : (A.set o v).take (o + 1) ++ (l ++ (A.set o v).drop (o + 1 + l.length)) = A.take o ++ (v :: l ++ A.drop (o + (l.length + 1))) := by
      rw [List.take_set, List.drop_set_of_lt (by omega), show o + 1 + l.length = o + (l.length + 1) by omega]
      have hlt : o < A.length := by omega
      rw [List.take_succ_eq_append_getElem hlt, List.set_append_right _ _ (by simp; omega)]
      have : (A.take o).length = o := by simp; omega
      simp [this]
    rw [e] at h2
    exact h2
theorem setCells_all {w : World} {b : Nat} {A vs : List Value} {t : TypeId} (h : BlkIs w b A t) (hl : vs.length = A.length) : BlkIs (w.setCells b 0 vs) b vs t := by
  have := setCells_at b vs w 0 A t h (by omega)
  rw [Nat.zero_add, hl, List.drop_length] at this
  simpa using this
theorem zero90 : ∀ w, (zeroValue 90).run Try.prog w = .ok (.agg (zeroSec ++ [Value.int .i64 0]).toArray) w := by
  have hi : (Try.prog.info? 90).map (fun i => i.zero) = some (some (.agg (zeroSec ++ [Value.int .i64 0]).toArray)) := by kernel_rfl
  obtain ⟨i, h1, h2⟩ := Option.map_eq_some_iff.1 hi
  intro w
  simp [zeroValue, typeInfo, h1, h2]
theorem info90 : (Try.prog.info? 90).map (fun i => (i.zero, i.size, i.bytes)) = some (some (.agg (zeroSec ++ [Value.int .i64 0]).toArray), 129, 136) := by kernel_rfl
theorem fold_set (C : List Value) : ∀ (k : Nat) (L : List Value), k + C.length ≤ L.length → (C.zipIdx k).foldl (fun (cs : Array Value) (x : Value × Nat) => cs.setIfInBounds x.2 x.1) L.toArray = (L.take k ++ (C ++ L.drop (k + C.length))).toArray := by
  induction C with
  | nil => intro k L _; simp
  | cons c l ih =>
    intro k L h
    simp at h
    rw [List.zipIdx_cons, List.foldl_cons]
    have e0 : L.toArray.setIfInBounds k c = (L.set k c).toArray := by simp
    show List.foldl _ (L.toArray.setIfInBounds k c) _ = _
    rw [e0, ih (k + 1) (L.set k c) (by simp; omega)]
    congr 1
    rw [List.drop_set_of_lt (by omega), show k + 1 + l.length = k + (l.length + 1) by omega]
    have hlt : k < L.length := by omega
    rw [List.take_set, List.take_succ_eq_append_getElem hlt, List.set_append_right _ _ (by simp; omega)]
    have : (L.take k).length = k := by simp; omega
    simp [this]
theorem build90 (C : List Value) (hC : C.length = 129) (w : World) : (Instr.buildSlice 71 1 #[(0, .agg C.toArray)]).run Try.prog w = .ok (.slice (some ⟨w.heap.size, 0, none⟩) 1 1) (w.alloc (.cells C.toArray 90)) := by
  obtain ⟨inf, h1, h2⟩ := Option.map_eq_some_iff.1 info90
  simp only [Prod.mk.injEq] at h2
  obtain ⟨hz, hsz, hy⟩ := h2
  obtain ⟨Z, hZ⟩ : ∃ Z : List Value, zeroSec ++ [Value.int .i64 0] = Z := ⟨_, rfl⟩
  rw [hZ] at hz
  have hZl : Z.length = 129 := by rw [← hZ]; simp [zeroSec]
  obtain ⟨L, hL⟩ : ∃ L : List Value, Array.map (fun x => Z[x % 129]?.getD default) (Array.range 129) = L.toArray := ⟨(Array.map (fun x => Z[x % 129]?.getD default) (Array.range 129)).toList, Array.toArray_toList.symm⟩
  have hLl : L.length = 129 := by
    have := congrArg Array.size hL
    simpa using this.symm
  have hf := fold_set C 0 L (by omega)
  rw [Nat.zero_add, hC, ← hLl, List.drop_length] at hf
  have e1 : ∀ w, (zeroValue 90).run Try.prog w = .ok (.agg Z.toArray) w := fun w => by simp [zeroValue, typeInfo, h1, hz]
  simp [Instr.buildSlice, run_underlying (P := Try.prog) Try.underlying71, sizeOf, typeInfo, h1, hsz, e1, Value.cells, hZl, Instr.fill, hL, hC, hLl, hf, newRow]
theorem size90 : (Try.prog.info? 90).map (·.size) = some 129 := by kernel_rfl
theorem size5 : (Try.prog.info? 5).map (·.size) = some 1 := by kernel_rfl
/-- A value stored over a whole block. -/
theorem store_blk {w : World} {b : Nat} {A vs : List Value} {t : TypeId} (h : BlkIs w b A t) (hl : vs.length = A.length) (h1 : ∀ v ∈ vs, v.oneCell' = true) : ∃ W, (storeCells ⟨b, 0, none⟩ vs).run Try.prog w = .ok () W ∧ BlkIs W b vs t ∧ Own b w W := by
  have ht := h.there vs.length (by omega)
  refine ⟨w.setCells b 0 vs, ?_, setCells_all h hl, Own.setCells _ _ _ _⟩
  exact run_storeCells_cells (P := Try.prog) b 0 vs 0 w (fun j hj => by simpa using (ht j hj).1) (fun j hj => by simpa using (ht j hj).2) h1
theorem blk_alloc (w : World) (A : Array Value) (t : TypeId) : BlkIs (w.alloc (.cells A t)) w.heap.size A.toList t := by
  unfold BlkIs
  simpa using blk_new w (.cells A t)
theorem cell_own {w w' : World} {q : Nat} (h : Own q w w') {a : Addr} {v : Value} (hc : w.cell? a = some v) (hq : a.block ≠ q) : w'.cell? a = some v :=
  (World.cell?_of_block (a := a) (h.block _ (World.block_lt_of_cell? _ _ hc) hq)).trans hc
theorem range_own {w w' : World} {q g o : Nat} {cs : List Value} (h : Own q w w') (hr : w.rangeAt g o cs) (hq : g ≠ q) : w'.rangeAt g o cs := fun j v hv => cell_own h (hr j v hv) hq
theorem range_below {w w' : World} {g o : Nat} {cs : List Value} (h : Below w.heap.size w w') (hr : w.rangeAt g o cs) : w'.rangeAt g o cs := fun j v hv => by
  have hc := hr j v hv
  exact (h.cell (p := ⟨g, o + j, none⟩) (World.block_lt_of_cell? _ _ hc)).trans hc
theorem range_lt {w : World} {g o : Nat} {cs : List Value} (hr : w.rangeAt g o cs) (h0 : 0 < cs.length) : g < w.heap.size :=
  World.block_lt_of_cell? _ _ (hr 0 _ (List.getElem?_eq_getElem h0))
/-- Cells copied into a block. -/
theorem copy_blk {w : World} {b o dLen dCap sLen sCap g p : Nat} {A cs : List Value} {t : TypeId} (h : BlkIs w b A t) (hn : cs.length = Nat.min sLen dLen) (hr : w.rangeAt g p cs) (hfit : o + cs.length ≤ A.length) (h1 : ∀ v ∈ cs, v.oneCell' = true) :
    ∃ W, (Builtin.copy_ #[40, 40] 3 #[.slice (some ⟨b, o, none⟩) dLen dCap, .slice (some ⟨g, p, none⟩) sLen sCap]).run Try.prog w = .ok (.int .i64 (cs.length : Int)) W ∧ BlkIs W b (A.take o ++ cs ++ A.drop (o + cs.length)) t ∧ Own b w W := by
  have hx := run_copy_row (P := Try.prog) w 40 40 3 5 b o dLen dCap ⟨g, p, none⟩ sLen sCap A.toArray t cs Try.underlying40 size5 h hn (fun j v hv => by rw [Addr.add_mid]; exact hr j v hv) (by simpa using hfit) h1
  refine ⟨_, hx, ?_, ?_⟩
  · unfold BlkIs
    have := setRow_heap w b A.toArray (A.take o ++ cs ++ A.drop (o + cs.length)).toArray t (0, 0) h
    simpa using this
  · exact ⟨rfl, rfl, rfl, by simp [World.setRow], fun k hk hq => setRow_other w b k _ hq⟩
theorem flatP_append (a b : List (List Value × Nat)) : flatP (a ++ b) = flatP a ++ flatP b := by
  induction a with
  | nil => rfl
  | cons r l ih => simp [flatP, ih]
/-- One write more is pending. -/
theorem pend_append (W : World) (N : Nat) (pv : Value) (P : List (List Value × Nat)) (cs : List Value) (i b : Nat) (ho : W.ownsRow N 90 129 pv P.length (flatP P)) (hN : N ≤ W.heap.size) (hP : P.length ≤ 100000) (hs : Sec cs) (hb : BlkIs W b (cs ++ [.int .i64 (i : Int)]) 90) :
    ∃ v1 w1, (Builtin.append_ #[71, 71] 71 #[pv, .slice (some ⟨b, 0, none⟩) 1 1]).run Try.prog W = .ok v1 w1 ∧ w1.ownsRow N 90 129 v1 (P ++ [(cs, i)]).length (flatP (P ++ [(cs, i)])) ∧ W.grownBy w1 pv.ownBlock := by
  obtain ⟨inf, h1, h2⟩ := Option.map_eq_some_iff.1 info90
  simp only [Prod.mk.injEq] at h2
  obtain ⟨hz, hsz, hy⟩ := h2
  have hl : (cs ++ [Value.int .i64 (i : Int)]).length = 1 * 129 := by simp [hs.len]
  obtain ⟨v', w', hr, hown, hg, _⟩ := run_append_own (P := Try.prog) W N 71 71 90 inf _ 129 136 Try.underlying71 h1 hz hsz hy (by simp [Value.cells, zeroSec]) (by decide) pv P.length (flatP P) ho ⟨b, 0, none⟩ 1 1 (cs ++ [.int .i64 (i : Int)]) hl
    (by
      intro j x hj
      rw [Addr.add_mid]
      exact hb.range j x hj)
    (by
      intro v hv
      rcases List.mem_append.1 hv with hv | hv
      · exact hs.bytes.one v hv
      · simp at hv; subst hv; rfl)
    (by simp [maxLen]; omega) (by omega) hN
  refine ⟨v', w', hr, ?_, hg⟩
  rw [flatP_append, List.length_append]
  exact hown
def M90 (t : TypeId) : Bool := t == 90
theorem M90_Md (t : TypeId) (h : Md t = false) : M90 t = false := by
  simp [M90, Md] at h ⊢
  exact h.2
theorem Moves.grown {M : TypeId → Bool} {N : Nat} {a b c : World} (h : Moves M N a b) {e size n : Nat} {v : Value} {xs : List Value} (ho : b.ownsRow N e size v n xs) (hg : b.grownBy c v.ownBlock) (hm : M e = true) (hN : N ≤ b.heap.size) : Moves M N a c := by
  obtain ⟨h1, h2⟩ := ho
  rcases h2 with ⟨rfl, h0⟩ | ⟨g, cap, cur, rfl, e2, e3, e4⟩
  · exact h.trans (.of_below ⟨hg.os, hg.tape, hg.output, hg.size, fun k hk => hg.block k hk (by simp [Value.ownBlock])⟩ hN)
  · exact h.upd e3 hm e2 ⟨hg.os, hg.tape, hg.output, hg.size, fun k hk hq => hg.block k hk (by simp [Value.ownBlock]; exact hq)⟩
theorem DiskAt.lt {N : Nat} {w : World} {d kq n : Nat} {pv : Value} {K : Nat → List Value} {P : List (List Value × Nat)} (h : DiskAt N w d kq n pv K P) : N ≤ w.heap.size := by
  have := blk_lt h.self
  have := h.bd
  omega
theorem DiskAt.wrote {N : Nat} {w W : World} {d kq n : Nat} {pv v1 : Value} {K : Nat → List Value} {P P' : List (List Value × Nat)} (h : DiskAt N w d kq n pv K P) (hm : Moves M90 N w W) (ho : W.ownsRow N 90 129 v1 P'.length (flatP P')) (hs : ∀ x ∈ P', Sec x.1 ∧ x.2 < n) : DiskAt N (W.setCell ⟨d, 1, none⟩ v1) d kq n v1 K P' ∧ Moves Md N w (W.setCell ⟨d, 1, none⟩ v1) := by
  have h1 : W.heap[d]? = some (.cells #[.slice (some ⟨kq, 0, none⟩) n n, pv, .int .i64 (-1), .bool false] 73 (0, 0)) := (hm.old _ _ _ _ h.self rfl).trans h.self
  obtain ⟨kc, k1, k2, k3⟩ := h.kept
  have h2 : W.heap[kq]? = some (.cells kc 85 (0, 0)) := (hm.old _ _ _ _ k1 rfl).trans k1
  have hO := Own.setCell W d 1 v1
  constructor
  · exact {
      self := by
        have := blk_setCell_self (o := 1) h1 v1
        simpa using this
      kept := ⟨kc, (hO.block _ (blk_lt h2) (blk_ne h2 h1 (by decide))).trans h2, k2, k3⟩
      sec := h.sec
      pend := by
        obtain ⟨o1, o2⟩ := ho
        refine ⟨o1, ?_⟩
        rcases o2 with o2 | ⟨g, cap, cur, e1, e2, e3, e4⟩
        · exact Or.inl o2
        · exact Or.inr ⟨g, cap, cur, e1, e2, (hO.block _ (blk_lt e3) (blk_ne e3 h1 (by decide))).trans e3, e4⟩
      psec := hs
      bd := h.bd
      bk := h.bk
      one := h.one
      most := h.most }
  · exact (hm.mono M90_Md (Nat.le_refl _)).upd h1 rfl h.bd hO
theorem rows_form {w : World} {base e size n : Nat} {v : Value} {xs : List Value} (h : w.ownsRow base e size v n xs) (hn : 0 < n) : ∃ g cap, v = .slice (some ⟨g, 0, none⟩) n cap ∧ base ≤ g := by
  rcases h.2 with ⟨_, h0⟩ | ⟨g, cap, cur, hv, hb, _⟩
  · omega
  · exact ⟨g, cap, hv, hb⟩
theorem own_below {w w' : World} {base e size n : Nat} {v : Value} {xs : List Value} (h : w.ownsRow base e size v n xs) (hb : Below w.heap.size w w') : w'.ownsRow base e size v n xs :=
  own_moves h (Moves.of_below (M := fun _ => false) (N := 0) hb (Nat.zero_le _)) rfl
theorem append_event {P : Program} {ops : Array Oper} {rest : List Oper} {o : Oper} {a : Act} {Q : Exit → Act → World → Prop} {W w1 : World} {v u1 u2 : Value} (hgd : o.guard = none) (s x : Operand) (t : TypeId)
    (ho : o.op = .call { callee := .builtin .append, args := #[s, x], argTypes := #[t, t] }) (h1 : a.eval s = u1) (h2 : a.eval x = u2) (hr : (Builtin.append_ #[t, t] o.type #[u1, u2]).run P W = .ok v w1)
    (h : wpList P ops Q rest (a.put o.dst v) w1) : wpList P ops Q (o :: rest) a W := by
  refine Kd.event_run hgd ?_ h
  unfold execOp
  simp only [ho, resolve, invoke, builtin, Sem.run_bind, Sem.run_pure, Result.andThen_ok, List.map_toArray, List.map_cons, List.map_nil, h1, h2, hr]
/-- An append whose run is known, at a step of a region that draws its order. -/
theorem append_step {P : Program} {ops : Array Oper} {o : Oper} {a : Act} {K : Act → World → Prop} {Q : Exit → Act → World → Prop} {E : Prop} {W w1 : World} {v u1 u2 : Value} (hgd : o.guard = none) (s x : Operand) (t : TypeId)
    (ho : o.op = .call { callee := .builtin .append, args := #[s, x], argTypes := #[t, t] }) (h1 : a.eval s = u1) (h2 : a.eval x = u2) (hr : (Builtin.append_ #[t, t] o.type #[u1, u2]).run P W = .ok v w1)
    (h : K (a.put o.dst v) w1) : if Region.wanted o (yielded ops a.tmps) = true then Oper.wp P o a W K Q else E := by
  have hw : Region.wanted o (yielded ops a.tmps) = true := by simp [Region.wanted, hgd]
  rw [if_pos hw]
  unfold Oper.wp execOp
  simp only [ho, resolve, invoke, builtin, Sem.run_bind, Sem.run_pure, Result.andThen_ok, List.map_toArray, List.map_cons, List.map_nil, h1, h2, hr]
  exact h
theorem build_step {ops : Array Oper} {o : Oper} {a : Act} {K : Act → World → Prop} {Q : Exit → Act → World → Prop} {E : Prop} {W : World} {C : List Value} (hC : C.length = 129) (hgd : o.guard = none) (x : Operand)
    (ho : o.op = .buildSlice 71 1 #[(0, x)]) (hx : a.eval x = .agg C.toArray) (h : K (a.put o.dst (.slice (some ⟨W.heap.size, 0, none⟩) 1 1)) (W.alloc (.cells C.toArray 90))) : if Region.wanted o (yielded ops a.tmps) = true then Oper.wp Try.prog o a W K Q else E := by
  have hw : Region.wanted o (yielded ops a.tmps) = true := by simp [Region.wanted, hgd]
  rw [if_pos hw]
  unfold Oper.wp execOp
  simp only [ho, List.map_toArray, List.map_cons, List.map_nil, hx, Sem.run_bind, Sem.run_pure, Result.andThen_ok, build90 C hC]
  exact h
theorem diskWrite_calls {N : Nat} {w : World} {d kq n : Nat} {K : Nat → List Value} {P : List (List Value × Nat)} (h : IsDisk N w d kq n K P) (hP : P.length ≤ 100000) (i : Nat) (hi : i < n) (gb ob cb : Nat) (cs : List Value) (hs : Sec cs) (hr : w.rangeAt gb ob cs) (x : Int) (hx : (i : Int) = x) :
    Calls Try.prog 47 #[.pointer (some ⟨d, 0, none⟩), .int .i64 x, .slice (some ⟨gb, ob, none⟩) 128 cb] w fun e w' => e = .returned (.int .i64 0) ∧ IsDisk N w' d kq n K (P ++ [(cs, i)]) ∧ Moves Md N w w' := by
  subst hx
  have H := Aside0.mk h
  have HI := Aside0.mk hi
  obtain ⟨Z, hZ⟩ : ∃ Z : Array Value, (zeroSec ++ [Value.int .i64 0]).toArray = Z := ⟨_, rfl⟩
  have hz90 := zero90
  rw [hZ] at hz90
  have hZs : Z.size = 129 := by rw [← hZ]; simp [zeroSec]
  obtain ⟨B, hB⟩ : ∃ B : List Value, Z.toList.set 128 (.int .i64 (i : Int)) = B := ⟨_, rfl⟩
  have hBl : B = zeroSec ++ [.int .i64 (i : Int)] := by rw [← hB, ← hZ]; simp [zeroSec]
  obtain ⟨W3, hst, hb3, ho3⟩ := store_blk (vs := Z.toList.set 128 (.int .i64 (i : Int))) (blk_alloc w Z 90) (by simp) (by
    rw [hB, hBl]
    intro v hv
    rcases List.mem_append.1 hv with hv | hv
    · exact zeroSec_sec.bytes.one v hv
    · simp at hv; subst hv; rfl)
  rw [hB, hBl] at hb3
  obtain ⟨pv, hd⟩ := h
  have hm3 : Moves M90 N w W3 := (Moves.of_below (below_alloc (Below.refl _ _) _) hd.lt).upd (blk_alloc w Z 90) rfl hd.lt ho3
  have hgb := range_lt hr (by rw [hs.len]; decide)
  have hr3 : W3.rangeAt gb ob cs := range_own ho3 (range_below (below_alloc (Below.refl _ _) _) hr) (by omega)
  obtain ⟨W5, hcp, hb5, ho5⟩ := copy_blk (o := 0) (dLen := 128) (dCap := 128) (sLen := 128) (sCap := cb) hb3 (by rw [hs.len]; rfl) hr3 (by simp [hs.len, zeroSec]) hs.bytes.one
  have hm5 : Moves M90 N w W5 := hm3.upd hb3 rfl hd.lt ho5
  have e5 : List.take 0 (zeroSec ++ [Value.int .i64 (i : Int)]) ++ cs ++ List.drop (0 + cs.length) (zeroSec ++ [Value.int .i64 (i : Int)]) = cs ++ [.int .i64 (i : Int)] := by simp [hs.len, zeroSec]
  rw [e5] at hb5
  rw [hs.len] at hcp
  obtain ⟨C, hC⟩ : ∃ C, cs ++ [Value.int .i64 (i : Int)] = C := ⟨_, rfl⟩
  have hb6 : BlkIs (W5.drew.alloc (.cells C.toArray 90)) W5.heap.size C 90 := by
    have := blk_alloc W5.drew C.toArray 90
    simpa using this
  have hsz5 : N ≤ (W5.drew.alloc (.cells C.toArray 90)).heap.size := by have := hm5.size; have := hd.lt; simp; omega
  have hm6 : Moves M90 N w (W5.drew.alloc (.cells C.toArray 90)) := hm5.trans (.of_below (((below_drew1 (Below.refl _ _)).alloc (Nat.le_refl _) _)) (by have := hm5.size; have := hd.lt; omega))
  have hbw : Below w.heap.size w (W5.drew.alloc (.cells C.toArray 90)) := by
    have b3 : Below w.heap.size w W3 := (below_alloc (Below.refl _ _) _).trans (ho3.below (Nat.le_refl _) (by simp))
    have b5 : Below w.heap.size w W5 := b3.trans (ho5.below (Nat.le_refl _) b3.size)
    exact (below_drew1 b5).alloc (below_drew1 b5).size _
  obtain ⟨v1, W7, hap, hown, hgr⟩ := pend_append (W5.drew.alloc (.cells C.toArray 90)) N pv P cs i W5.heap.size (own_below hd.pend hbw) hsz5 hP hs (by rw [hC]; exact hb6)
  have hm7 : Moves M90 N w W7 := hm6.grown (own_below hd.pend hbw) hgr rfl hsz5
  have hfin := hd.wrote hm7 hown (fun x hx => by
    rcases List.mem_append.1 hx with hx | hx
    · exact hd.psec x hx
    · simp at hx; subst hx; exact ⟨hs, hi⟩)
  obtain ⟨gv, capv, hv1⟩ : ∃ gv capv, v1 = .slice (some ⟨gv, 0, none⟩) (P.length + 1) capv := by
    obtain ⟨gv, capv, e, _⟩ := rows_form hown (by simp)
    exact ⟨gv, capv, by rw [e]; simp⟩
  subst hv1
  have HF := Aside0.mk hfin
  have HAP := Aside0.mk hap
  have hd5 : W5.cell? ⟨d, 1, none⟩ = some pv := (blk_cell ((hm5.old _ _ _ _ hd.self rfl).trans hd.self) 1).trans rfl
  have hd6 : (W5.drew.alloc (.cells C.toArray 90)).cell? ⟨d, 1, none⟩ = some pv := (blk_cell ((hm6.old _ _ _ _ hd.self rfl).trans hd.self) 1).trans rfl
  have hd6b : (W5.alloc (.cells C.toArray 90)).cell? ⟨d, 1, none⟩ = some pv := hd6
  have hd7 : W7.cell? ⟨d, 1, none⟩ = some pv := (blk_cell ((hm7.old _ _ _ _ hd.self rfl).trans hd.self) 1).trans rfl
  have hf7 : W7.frozen? ⟨d, 1, none⟩ = false := by simp [World.frozen?, (hm7.old _ _ _ _ hd.self rfl).trans hd.self]
  have hrg : W5.rangeAt w.heap.size 0 C := by
    have := BlkIs.range hb5
    rwa [hC] at this
  have hrg6 : (W5.drew.alloc (.cells C.toArray 90)).rangeAt w.heap.size 0 C := range_below (((below_drew1 (Below.refl _ _)).alloc (Nat.le_refl _) _)) hrg
  have hrg7 : W7.rangeAt w.heap.size 0 C := by
    intro j v hv
    have hc := hrg6 j v hv
    refine (World.cell?_of_block (a := ⟨w.heap.size, 0 + j, none⟩) (hgr.block _ (World.block_lt_of_cell? _ _ hc) ?_)).trans hc
    intro e
    have := (World.ownsRow.lt hd.pend _ e.symm).2
    simp at this
  have hrg8 : ∀ v, (W7.setCell ⟨d, 1, none⟩ v).rangeAt w.heap.size 0 C := fun v => range_own (Own.setCell _ _ _ _) hrg7 (by have := blk_lt hd.self; omega)
  have hCl : C.length = 129 := by rw [← hC]; simp [hs.len]
  have hC1 : ∀ v ∈ C, v.oneCell' = true := by
    rw [← hC]
    intro v hv
    rcases List.mem_append.1 hv with hv | hv
    · exact hs.bytes.one v hv
    · simp at hv; subst hv; rfl
  have hu90 := Try.underlying90
  have hi90 : (Try.prog.info? 90).map (·.size) = some C.length := by rw [hCl]; exact size90
  have hne : ¬ d = w.heap.size := by have := blk_lt hd.self; omega
  have hne2 : ¬ w.heap.size = d := by omega
  clear hBl hb3 ho3 hm3 hb5 ho5 hm5 e5 hb6 hsz5 hm6 hbw hap hown hgr hm7 hfin hr3 hd hr hgb hZ hB hP hs hi hC
  go_enter Try.func47, Try.ntmps47
  go_wp2_with (first | (go_at_call 49; (with_reducible refine (within_calls H.out i HI.out _ rfl).mono ?_); rintro e w1 ⟨rfl, hw1⟩; obtain rfl : w = w1 := hw1.symm) | (go_at_call 55; (with_reducible refine (burn_calls H.out).mono ?_); rintro e w2 ⟨rfl, hw2⟩; obtain rfl : w = w2 := hw2.symm))
  refine wp_region_held_drew (S := fun w' => w'.rangeAt w.heap.size 0 C) (by kernel_rfl) hrg (fun hHeld => ?_)
  refine wpAnyH_take (i := 0) (oi := ?o1) (v := ?v1) ?ho1 (by kernel_rfl) (by kernel_rfl) (by kernel_rfl) ?hp1 ?hy1 (by assumption) ?rest1
  case ho1 => (simp only [List.getElem?_toArray, List.getElem?_cons_succ, List.getElem?_cons_zero]; with_reducible rfl)
  case hp1 => exact fun _ _ _ h => h
  case hy1 => (refine Or.inl ⟨by rfl, ?_⟩; intro w' hSw; (try dsimp only at hSw); go_simp; try (with_reducible rfl))
  try simp only [Act.put, List.setIfInBounds_toArray, List.set_cons_zero, List.set_cons_succ]
  refine wpAnyH_take (i := 1) (oi := ?o2) (v := ?v2) ?ho2 (by kernel_rfl) (by kernel_rfl) (by kernel_rfl) ?hp2 ?hy2 (by assumption) ?rest2
  case ho2 => (simp only [List.getElem?_toArray, List.getElem?_cons_succ, List.getElem?_cons_zero]; with_reducible rfl)
  case hp2 => exact fun _ _ _ h => h
  case hy2 => (refine Or.inl ⟨by rfl, ?_⟩; intro w' hSw; (try dsimp only at hSw); go_simp; try (with_reducible rfl))
  try simp only [Act.put, List.setIfInBounds_toArray, List.set_cons_zero, List.set_cons_succ]
  refine wpAnyH_take (i := 2) (oi := ?o3) (v := ?v3) ?ho3 (by kernel_rfl) (by kernel_rfl) (by kernel_rfl) ?hp3 ?hy3 (by assumption) ?rest3
  case ho3 => (simp only [List.getElem?_toArray, List.getElem?_cons_succ, List.getElem?_cons_zero]; with_reducible rfl)
  case hp3 => exact fun _ _ _ h => h
  case hy3 => (refine Or.inl ⟨by rfl, ?_⟩; intro w' hSw; (try dsimp only at hSw); go_simp; try (with_reducible rfl))
  try simp only [Act.put, List.setIfInBounds_toArray, List.set_cons_zero, List.set_cons_succ]
  refine wpAnyH_take (i := 3) (oi := ?o4) (v := ?v4) ?ho4 (by kernel_rfl) (by kernel_rfl) (by kernel_rfl) ?hp4 ?hy4 (by assumption) ?rest4
  case ho4 => (simp only [List.getElem?_toArray, List.getElem?_cons_succ, List.getElem?_cons_zero]; with_reducible rfl)
  case hp4 => exact fun _ _ _ h => h
  case hy4 => (refine Or.inl ⟨by rfl, ?_⟩; intro w' hSw; (try dsimp only at hSw); go_simp; try (with_reducible rfl))
  try simp only [Act.put, List.setIfInBounds_toArray, List.set_cons_zero, List.set_cons_succ]
  refine wpAnyH_take (i := 5) (oi := ?o5) (v := .agg C.toArray) ?ho5 (by kernel_rfl) (by kernel_rfl) (by kernel_rfl) ?hp5 ?hy5 (by assumption) ?rest5
  case ho5 => (simp only [List.getElem?_toArray, List.getElem?_cons_succ, List.getElem?_cons_zero]; with_reducible rfl)
  case hp5 => exact fun _ _ _ h => h
  case hy5 => exact yieldsIf_load_mid (by rfl) 90 (.tmp 8) rfl w.heap.size 0 rfl C _ (fun w' h => h) hu90 rfl hi90
  try simp only [Act.put, List.setIfInBounds_toArray, List.set_cons_zero, List.set_cons_succ]
  refine wpAnyH_ready (rs := [4, 6]) (by kernel_rfl) (by simp) ?_
  refine AllReadyH.cons (o := ?o6) ?ho6 ?st6 ?mo6
  case ho6 => (simp only [List.getElem?_toArray, List.getElem?_cons_succ, List.getElem?_cons_zero]; with_reducible rfl)
  case st6 =>
    intro K hK
    go_simp
    refine hK.out _ _ hrg (fun _ => ?_)
    clear hK K
    try simp only [Act.put, List.setIfInBounds_toArray, List.set_cons_zero, List.set_cons_succ]
    refine wpAnyH_ready (rs := [6]) (by kernel_rfl) (by simp) ?_
    refine AllReadyH.cons (o := ?o7) ?ho7 ?st7 AllReadyH.nil
    case ho7 => (simp only [List.getElem?_toArray, List.getElem?_cons_succ, List.getElem?_cons_zero]; with_reducible rfl)
    intro K hK
    refine build_step hCl rfl (.tmp 37) rfl rfl ?_
    refine hK.out _ _ hrg6 (fun _ => ?_)
    clear hK K
    try simp only [Act.put, List.setIfInBounds_toArray, List.set_cons_zero, List.set_cons_succ]
    refine wpAnyH_ready (rs := [7]) (by kernel_rfl) (by simp) ?_
    refine AllReadyH.cons (o := ?o8) ?ho8 ?st8 AllReadyH.nil
    case ho8 => (simp only [List.getElem?_toArray, List.getElem?_cons_succ, List.getElem?_cons_zero]; with_reducible rfl)
    intro K hK
    refine append_step rfl (.tmp 36) (.tmp 38) 71 rfl rfl rfl HAP.out ?_
    refine hK.out _ _ hrg7 (fun _ => ?_)
    clear hK K
    try simp only [Act.put, List.setIfInBounds_toArray, List.set_cons_zero, List.set_cons_succ]
    refine wpAnyH_take (i := 8) (oi := ?o9) (v := ?v9) ?ho9 (by kernel_rfl) (by kernel_rfl) (by kernel_rfl) ?hp9 ?hy9 (by assumption) ?rest9
    case ho9 => (simp only [List.getElem?_toArray, List.getElem?_cons_succ, List.getElem?_cons_zero]; with_reducible rfl)
    case hp9 => exact fun _ _ _ h => h
    case hy9 => (refine Or.inl ⟨by rfl, ?_⟩; intro w' hSw; (try dsimp only at hSw); go_simp; try (with_reducible rfl))
    try simp only [Act.put, List.setIfInBounds_toArray, List.set_cons_zero, List.set_cons_succ]
    refine wpAnyH_take (i := 9) (oi := ?o10) (v := ?v10) ?ho10 (by kernel_rfl) (by kernel_rfl) (by kernel_rfl) ?hp10 ?hy10 (by assumption) ?rest10
    case ho10 => (simp only [List.getElem?_toArray, List.getElem?_cons_succ, List.getElem?_cons_zero]; with_reducible rfl)
    case hp10 => exact fun _ _ _ h => h
    case hy10 => (refine Or.inl ⟨by rfl, ?_⟩; intro w' hSw; (try dsimp only at hSw); go_simp; try (with_reducible rfl))
    try simp only [Act.put, List.setIfInBounds_toArray, List.set_cons_zero, List.set_cons_succ]
    refine wpAnyH_ready (rs := [10]) (by kernel_rfl) (by simp) ?_
    refine AllReadyH.cons (o := ?o11) ?ho11 ?st11 AllReadyH.nil
    case ho11 => (simp only [List.getElem?_toArray, List.getElem?_cons_succ, List.getElem?_cons_zero]; with_reducible rfl)
    intro K hK
    go_simp
    refine hK.out _ _ (hrg8 _) (fun _ => ?_)
    clear hK K
    try simp only [Act.put, List.setIfInBounds_toArray, List.set_cons_zero, List.set_cons_succ]
    refine wpAnyH_done (by kernel_rfl) ?_ _
    go_wp2
    go_ret
    exact ⟨rfl, ⟨_, HF.out.1⟩, HF.out.2⟩
  refine AllReadyH.cons (o := ?o12) ?ho12 ?st12 AllReadyH.nil
  case ho12 => (simp only [List.getElem?_toArray, List.getElem?_cons_succ, List.getElem?_cons_zero]; with_reducible rfl)
  case st12 =>
    intro K hK
    refine build_step hCl rfl (.tmp 37) rfl rfl ?_
    refine hK.out _ _ hrg6 (fun _ => ?_)
    clear hK K
    try simp only [Act.put, List.setIfInBounds_toArray, List.set_cons_zero, List.set_cons_succ]
    refine wpAnyH_ready (rs := [4]) (by kernel_rfl) (by simp) ?_
    refine AllReadyH.cons (o := ?o13) ?ho13 ?st13 AllReadyH.nil
    case ho13 => (simp only [List.getElem?_toArray, List.getElem?_cons_succ, List.getElem?_cons_zero]; with_reducible rfl)
    intro K hK
    go_simp
    refine hK.out _ _ hrg6 (fun _ => ?_)
    clear hK K
    try simp only [Act.put, List.setIfInBounds_toArray, List.set_cons_zero, List.set_cons_succ]
    refine wpAnyH_ready (rs := [7]) (by kernel_rfl) (by simp) ?_
    refine AllReadyH.cons (o := ?o14) ?ho14 ?st14 AllReadyH.nil
    case ho14 => (simp only [List.getElem?_toArray, List.getElem?_cons_succ, List.getElem?_cons_zero]; with_reducible rfl)
    intro K hK
    refine append_step rfl (.tmp 36) (.tmp 38) 71 rfl rfl rfl HAP.out ?_
    refine hK.out _ _ hrg7 (fun _ => ?_)
    clear hK K
    try simp only [Act.put, List.setIfInBounds_toArray, List.set_cons_zero, List.set_cons_succ]
    refine wpAnyH_take (i := 8) (oi := ?o15) (v := ?v15) ?ho15 (by kernel_rfl) (by kernel_rfl) (by kernel_rfl) ?hp15 ?hy15 (by assumption) ?rest15
    case ho15 => (simp only [List.getElem?_toArray, List.getElem?_cons_succ, List.getElem?_cons_zero]; with_reducible rfl)
    case hp15 => exact fun _ _ _ h => h
    case hy15 => (refine Or.inl ⟨by rfl, ?_⟩; intro w' hSw; (try dsimp only at hSw); go_simp; try (with_reducible rfl))
    try simp only [Act.put, List.setIfInBounds_toArray, List.set_cons_zero, List.set_cons_succ]
    refine wpAnyH_take (i := 9) (oi := ?o16) (v := ?v16) ?ho16 (by kernel_rfl) (by kernel_rfl) (by kernel_rfl) ?hp16 ?hy16 (by assumption) ?rest16
    case ho16 => (simp only [List.getElem?_toArray, List.getElem?_cons_succ, List.getElem?_cons_zero]; with_reducible rfl)
    case hp16 => exact fun _ _ _ h => h
    case hy16 => (refine Or.inl ⟨by rfl, ?_⟩; intro w' hSw; (try dsimp only at hSw); go_simp; try (with_reducible rfl))
    try simp only [Act.put, List.setIfInBounds_toArray, List.set_cons_zero, List.set_cons_succ]
    refine wpAnyH_ready (rs := [10]) (by kernel_rfl) (by simp) ?_
    refine AllReadyH.cons (o := ?o17) ?ho17 ?st17 AllReadyH.nil
    case ho17 => (simp only [List.getElem?_toArray, List.getElem?_cons_succ, List.getElem?_cons_zero]; with_reducible rfl)
    intro K hK
    go_simp
    refine hK.out _ _ (hrg8 _) (fun _ => ?_)
    clear hK K
    try simp only [Act.put, List.setIfInBounds_toArray, List.set_cons_zero, List.set_cons_succ]
    refine wpAnyH_done (by kernel_rfl) ?_ _
    go_wp2
    go_ret
    exact ⟨rfl, ⟨_, HF.out.1⟩, HF.out.2⟩
end Go.Proofs.Ytdjpohmgljhhcaa.A
