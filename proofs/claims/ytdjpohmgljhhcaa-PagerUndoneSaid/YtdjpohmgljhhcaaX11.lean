/- What calls leave as it was. -/
import Derived.Test.YtdjpohmgljhhcaaX10
namespace Go.Proofs.Ytdjpohmgljhhcaa.A
open Go.RowKit Go.Proofs.YtdjpohmgljhhcaaW.PrintWords Go.Proofs.YtdjpohmgljhhcaaW.PrintLast Go.Proofs.YtdjpohmgljhhcaaW.PrintMore
set_option linter.unusedVariables false
/-- Blocks below a bound, and blocks whose type is not one of some, are as they were. -/
structure Moves (M : TypeId → Bool) (N : Nat) (w w' : World) : Prop where
  os : w'.os = w.os
  tape : w'.tape = w.tape
  output : w'.output = w.output
  size : w.heap.size ≤ w'.heap.size
  low : ∀ k, k < N → w'.heap[k]? = w.heap[k]?
  old : ∀ (k : Nat) (cs : Array Value) (t : TypeId) (f : Nat × Nat), w.heap[k]? = some (Obj.cells cs t f) → M t = false → w'.heap[k]? = w.heap[k]?
theorem Moves.refl (M : TypeId → Bool) (N : Nat) (w : World) : Moves M N w w := ⟨rfl, rfl, rfl, Nat.le_refl _, fun _ _ => rfl, fun _ _ _ _ _ _ => rfl⟩
theorem Moves.trans {M : TypeId → Bool} {N : Nat} {a b c : World} (h : Moves M N a b) (k : Moves M N b c) : Moves M N a c :=
  ⟨k.os.trans h.os, k.tape.trans h.tape, k.output.trans h.output, Nat.le_trans h.size k.size, fun i hi => (k.low i hi).trans (h.low i hi), fun i cs t f hc hm => (k.old i cs t f ((h.old i cs t f hc hm).trans hc) hm).trans (h.old i cs t f hc hm)⟩
theorem Moves.of_below {M : TypeId → Bool} {N : Nat} {a b : World} (h : Below a.heap.size a b) (hN : N ≤ a.heap.size) : Moves M N a b :=
  ⟨h.os, h.tape, h.output, h.size, fun k hk => h.block k (by omega), fun k cs t f hc _ => h.block k (blk_lt hc)⟩
theorem Moves.drawn {M : TypeId → Bool} {N : Nat} {a b : World} (h : Drawn0 a b) (hN : N ≤ a.heap.size) : Moves M N a b := .of_below h.below hN
theorem Moves.mono {M M' : TypeId → Bool} {N N' : Nat} {a b : World} (h : Moves M N a b) (hm : ∀ t, M' t = false → M t = false) (hn : N' ≤ N) : Moves M' N' a b :=
  ⟨h.os, h.tape, h.output, h.size, fun k hk => h.low k (by omega), fun k cs t f hc ht => h.old k cs t f hc (hm t ht)⟩
theorem Moves.below {M : TypeId → Bool} {N : Nat} {a b : World} (h : Moves M N a b) : Below N a b := ⟨h.os, h.tape, h.output, h.size, h.low⟩
/-- One block of such a type changed. -/
theorem Moves.upd {M : TypeId → Bool} {N : Nat} {a b c : World} (h : Moves M N a b) {q : Nat} {cs : Array Value} {t : TypeId} {f : Nat × Nat} (hq : b.heap[q]? = some (.cells cs t f)) (hm : M t = true) (hN : N ≤ q) (hc : Own q b c) : Moves M N a c where
  os := hc.os.trans h.os
  tape := hc.tape.trans h.tape
  output := hc.output.trans h.output
  size := Nat.le_trans h.size hc.size
  low := by
    intro k hk
    by_cases hb : k < b.heap.size
    · exact (hc.block k hb (by omega)).trans (h.low k hk)
    · exact absurd (blk_lt hq) (by omega)
  old := by
    intro k cs' t' f' hk ht
    have e := h.old k cs' t' f' hk ht
    have hl : k < b.heap.size := blk_lt (e.trans hk)
    refine (hc.block k hl ?_).trans e
    rintro rfl
    rw [e, hk] at hq
    simp only [Option.some.injEq, Obj.cells.injEq] at hq
    rw [hq.2.1, hm] at ht
    simp at ht
theorem Moves.set {M : TypeId → Bool} {N : Nat} {a b : World} (h : Moves M N a b) {q : Nat} {cs : Array Value} {t : TypeId} {f : Nat × Nat} (hq : b.heap[q]? = some (.cells cs t f)) (hm : M t = true) (hN : N ≤ q) (o : Nat) (v : Value) : Moves M N a (b.setCell ⟨q, o, none⟩ v) :=
  h.upd hq hm hN (Own.setCell _ _ _ _)
theorem Own.setCells (w : World) (q : Nat) (vs : List Value) (o : Nat) : Own q w (w.setCells q o vs) := by
  induction vs generalizing w o with
  | nil => exact Own.refl q w
  | cons v l ih => exact (Own.setCell w q o v).trans (ih _ _)
theorem blk_ne {w : World} {b c : Nat} {x y : Array Value} {t s : TypeId} {f f' : Nat × Nat} (h1 : w.heap[b]? = some (.cells x t f)) (h2 : w.heap[c]? = some (.cells y s f')) (hne : t ≠ s) : b ≠ c := by
  rintro rfl
  rw [h1] at h2
  simp only [Option.some.injEq, Obj.cells.injEq] at h2
  exact hne h2.2.1
theorem IsAlloc.moves {M : TypeId → Bool} {N : Nat} {w w' : World} {p q n : Nat} {T : Nat → Bool} (h : IsAlloc w p q n T) (hm : Moves M N w w') (h1 : M 76 = false) (h2 : M 77 = false) : IsAlloc w' p q n T := by
  obtain ⟨c, cells, u, h⟩ := h
  exact ⟨c, cells, u, (hm.old _ _ _ _ h.self h1).trans h.self, (hm.old _ _ _ _ h.words h2).trans h.words, h.cap, h.cell, h.lt, h.bit, h.out, h.apart, h.one, h.most⟩
theorem own_moves {M : TypeId → Bool} {N' : Nat} {w w' : World} {base e size n : Nat} {v : Value} {xs : List Value} (h : w.ownsRow base e size v n xs) (hb : Moves M N' w w') (hm : M e = false) : w'.ownsRow base e size v n xs := by
  obtain ⟨h1, h2⟩ := h
  refine ⟨h1, ?_⟩
  rcases h2 with h2 | ⟨g, cap, cur, e1, e2, e3, e4⟩
  · exact Or.inl h2
  · exact Or.inr ⟨g, cap, cur, e1, e2, (hb.old _ _ _ _ e3 hm).trans e3, e4⟩
theorem IsDisk.moves {M : TypeId → Bool} {N N' : Nat} {w w' : World} {d kq n : Nat} {K : Nat → List Value} {P : List (List Value × Nat)} (h : IsDisk N w d kq n K P) (hm : Moves M N' w w') (h1 : M 73 = false) (h2 : M 85 = false) (h3 : M 90 = false) : IsDisk N w' d kq n K P := by
  obtain ⟨pv, h⟩ := h
  obtain ⟨kc, k1, k2, k3⟩ := h.kept
  exact ⟨pv, (hm.old _ _ _ _ h.self h1).trans h.self, ⟨kc, (hm.old _ _ _ _ k1 h2).trans k1, k2, k3⟩, h.sec, own_moves h.pend hm h3, h.psec, h.bd, h.bk, h.one, h.most⟩
theorem IsDisk.grown {N : Nat} {w w' : World} {d kq n : Nat} {K : Nat → List Value} {P : List (List Value × Nat)} (h : IsDisk N w d kq n K P) (hb : Below w.heap.size w w') : IsDisk N w' d kq n K P :=
  h.moves (M := fun _ => false) (.of_below hb (Nat.le_refl _)) rfl rfl rfl
theorem IsAlloc.range {w : World} {p q n : Nat} {T : Nat → Bool} (h : IsAlloc w p q n T) : 1 ≤ n ∧ n ≤ 16384 ∧ ∀ x, n ≤ x → T x = false := by
  obtain ⟨c, cells, u, h⟩ := h
  exact ⟨h.one, h.most, h.out⟩
theorem Own.moves {w w' : World} {p q n : Nat} {T : Nat → Bool} {M : TypeId → Bool} {N : Nat} (h : IsAlloc w p q n T) (ho : Own q w w') (hm : M 77 = true) (hN : N ≤ q) : Moves M N w w' := by
  obtain ⟨c, cells, u, h⟩ := h
  exact (Moves.refl M N w).upd h.words hm hN ho
/-- The types of what a disk's calls change. -/
def Md (t : TypeId) : Bool := t == 73 || t == 85 || t == 90
/-- The types of what a pager's calls change. -/
def Mp (t : TypeId) : Bool := t == 60 || t == 73 || t == 77 || t == 85 || t == 90
theorem Md_Mp (t : TypeId) (h : Mp t = false) : Md t = false := by
  simp [Mp, Md] at h ⊢
  simp [h]
end Go.Proofs.Ytdjpohmgljhhcaa.A
