/- Of no pager nothing; PagerNil. -/
import Derived.Test.YtdjpohmgljhhcaaX23
namespace Go.Proofs.Ytdjpohmgljhhcaa.A
open Go.RowKit Go.Proofs.YtdjpohmgljhhcaaW.PrintWords Go.Proofs.YtdjpohmgljhhcaaW.PrintLast Go.Proofs.YtdjpohmgljhhcaaW.PrintMore
set_option linter.unusedVariables false
set_option linter.unusedSimpArgs false
set_option maxHeartbeats 4000000
set_option maxRecDepth 100000
/-- No pager, or one that nothing made. -/
def NoPager (w : World) (v : Value) : Prop := v = .pointer none ∨ ∃ (p : Nat) (v0 v2 v3 : Value), v = .pointer (some ⟨p, 0, none⟩) ∧ w.heap[p]? = some (.cells #[v0, .pointer none, v2, v3] 50 (0, 0))
theorem NoPager.below {w w' : World} {v : Value} (h : NoPager w v) (hb : Below w.heap.size w w') : NoPager w' v := by
  rcases h with rfl | ⟨p, v0, v2, v3, rfl, h⟩
  · exact Or.inl rfl
  · exact Or.inr ⟨p, v0, v2, v3, rfl, blk_below h hb⟩
theorem pmade_no {w : World} {v : Value} (h : NoPager w v) : Calls Try.prog 23 #[v] w fun e w' => e = .returned (.bool false) ∧ w = w' := by
  rcases h with rfl | ⟨p, v0, v2, v3, rfl, h⟩
  · exact pmade_nil w
  · exact pmade_zero w p v0 v2 v3 h
theorem Write_no {w : World} {v : Value} (h : NoPager w v) (x1 : Value) : Calls Try.prog 15 #[v, x1] w fun e w' => e = .returned (.tuple #[.int .i64 0, .int .i64 1]) ∧ w = w' := by
  have H := Aside0.mk h
  clear h
  go_enter Try.func15, Try.ntmps15
  go_wp2_with (first | (go_at_call 23; (with_reducible refine (pmade_no H.out).mono ?_); rintro e w1 ⟨rfl, rfl⟩))
  go_ret2
  exact ⟨rfl, rfl⟩
theorem Read_no {w : World} {v : Value} (h : NoPager w v) (x1 : Value) : Calls Try.prog 16 #[v, x1] w fun e w' => e = .returned (.tuple #[.slice none 0 0, .int .i64 1]) ∧ w = w' := by
  have H := Aside0.mk h
  clear h
  go_enter Try.func16, Try.ntmps16
  go_wp2_with (first | (go_at_call 23; (with_reducible refine (pmade_no H.out).mono ?_); rintro e w1 ⟨rfl, rfl⟩))
  go_ret2
  exact ⟨rfl, rfl⟩
theorem Pages_no {w : World} {v : Value} (h : NoPager w v)  : Calls Try.prog 10 #[v] w fun e w' => e = .returned (.tuple #[.slice none 0 0, .slice none 0 0, .slice none 0 0]) ∧ w = w' := by
  have H := Aside0.mk h
  clear h
  go_enter Try.func10, Try.ntmps10
  go_wp2_with (first | (go_at_call 23; (with_reducible refine (pmade_no H.out).mono ?_); rintro e w1 ⟨rfl, rfl⟩))
  go_ret3
  exact ⟨rfl, rfl⟩
theorem Rewrite_no {w : World} {v : Value} (h : NoPager w v) (x1 : Value) (x2 : Value) : Calls Try.prog 18 #[v, x1, x2] w fun e w' => e = .returned (.int .i64 1) ∧ w = w' := by
  have H := Aside0.mk h
  clear h
  go_enter Try.func18, Try.ntmps18
  go_wp2_with (first | (go_at_call 23; (with_reducible refine (pmade_no H.out).mono ?_); rintro e w1 ⟨rfl, rfl⟩))
  go_ret
  exact ⟨rfl, rfl⟩
theorem Release_no {w : World} {v : Value} (h : NoPager w v) (x1 : Value) : Calls Try.prog 19 #[v, x1] w fun e w' => e = .returned (.int .i64 1) ∧ w = w' := by
  have H := Aside0.mk h
  clear h
  go_enter Try.func19, Try.ntmps19
  go_wp2_with (first | (go_at_call 23; (with_reducible refine (pmade_no H.out).mono ?_); rintro e w1 ⟨rfl, rfl⟩))
  go_ret
  exact ⟨rfl, rfl⟩
theorem turn_no {w : World} {v : Value} (h : NoPager w v) (x1 : Value) (x2 : Value) : Calls Try.prog 22 #[v, x1, x2] w fun e w' => e = .returned (.int .i64 1) ∧ w = w' := by
  have H := Aside0.mk h
  clear h
  go_enter Try.func22, Try.ntmps22
  go_wp2_with (first | (go_at_call 23; (with_reducible refine (pmade_no H.out).mono ?_); rintro e w1 ⟨rfl, rfl⟩))
  go_ret
  exact ⟨rfl, rfl⟩
theorem pFree_no {w : World} {v : Value} (h : NoPager w v)  : Calls Try.prog 11 #[v] w fun e w' => e = .returned (.int .i64 0) ∧ w = w' := by
  have H := Aside0.mk h
  clear h
  go_enter Try.func11, Try.ntmps11
  go_wp2_with (first | (go_at_call 23; (with_reducible refine (pmade_no H.out).mono ?_); rintro e w1 ⟨rfl, rfl⟩))
  go_ret
  exact ⟨rfl, rfl⟩
theorem Settle_no {w : World} {v : Value} (h : NoPager w v) : Calls Try.prog 9 #[v] w fun e w' => e = .returned (.int .i64 1) ∧ w = w' := by
  have H := Aside0.mk h
  clear h
  go_enter Try.func9, Try.ntmps9
  go_wp2_with (first | (go_at_call 22; (with_reducible refine (turn_no H.out _ _).mono ?_); rintro e w1 ⟨rfl, rfl⟩))
  go_ret
  exact ⟨rfl, rfl⟩
theorem Undo_no {w : World} {v : Value} (h : NoPager w v) : Calls Try.prog 13 #[v] w fun e w' => e = .returned (.int .i64 1) ∧ w = w' := by
  have H := Aside0.mk h
  clear h
  go_enter Try.func13, Try.ntmps13
  go_wp2_with (first | (go_at_call 22; (with_reducible refine (turn_no H.out _ _).mono ?_); rintro e w1 ⟨rfl, rfl⟩))
  go_ret
  exact ⟨rfl, rfl⟩
theorem Keep_no {w : World} {v : Value} (h : NoPager w v) (x1 : Value) : Calls Try.prog 20 #[v, x1] w fun e w' => e = .returned (.int .i64 1) ∧ Below w.heap.size w w' := by
  obtain ⟨A, rfl⟩ : ∃ A, v = .pointer A := by
    rcases h with rfl | ⟨p, _, _, _, rfl, _⟩
    · exact ⟨_, rfl⟩
    · exact ⟨_, rfl⟩
  have hb0 : Below w.heap.size w (w.alloc (.cells #[.pointer A] 23)) := below_alloc (Below.refl _ w) _
  have H := Aside0.mk (h.below hb0)
  have HB := Aside0.mk hb0
  clear h hb0
  go_enter Try.func20, Try.ntmps20
  go_wp2_with (first | (go_at_call 23; (with_reducible refine (pmade_no H.out).mono ?_); rintro e w1 ⟨rfl, rfl⟩))
  go_ret
  exact ⟨rfl, HB.out⟩
theorem pagerNew_no (w : World) : Calls Try.prog 17 #[.pointer none, .int .i64 0, .int .i64 1] w fun e w' => e = .returned (.tuple #[.pointer none, .int .i64 1]) ∧ w = w' := by
  go_enter Try.func17, Try.ntmps17
  go_wp2_with (first | (go_at_call 33; (with_reducible refine (diskSize_nil _).mono ?_); rintro e w1 ⟨rfl, hw1⟩; obtain rfl := hw1.symm))
  go_ret2
  exact ⟨rfl, rfl⟩
theorem zero50 : ∀ w, (zeroValue 50).run Try.prog w = .ok (.agg #[.pointer none, .pointer none, .int .i64 0, .slice none 0 0]) w := by
  have hi : (Try.prog.info? 50).map (fun i => i.zero) = some (some (.agg #[.pointer none, .pointer none, .int .i64 0, .slice none 0 0])) := by kernel_rfl
  obtain ⟨i, h1, h2⟩ := Option.map_eq_some_iff.1 hi
  intro w
  simp [zeroValue, typeInfo, h1, h2]
theorem pagerNil_walk (w : World) (a0 : Int) (A1 : Option Addr) (len1 cap1 : Nat) (A2 : Option Addr) (len2 cap2 : Nat) (b3 : Bool) : Calls Try.prog 5 #[.int .i64 a0, .slice A1 len1 cap1, .slice A2 len2 cap2, .bool b3] w fun e w' => e = .returned (.bool true) ∧ Below w.heap.size w w' := by
  cases b3 with
  | true =>
    have hb0 : Below w.heap.size w (w.alloc (.cells #[.pointer none, .pointer none, .int .i64 0, .slice none 0 0] 50)) := below_alloc (Below.refl _ w) _
    have H := Aside0.mk (show NoPager (w.alloc (.cells #[.pointer none, .pointer none, .int .i64 0, .slice none 0 0] 50)) (.pointer (some ⟨w.heap.size, 0, none⟩)) from Or.inr ⟨_, _, _, _, rfl, blk_new w _⟩)
    have HB := Aside0.mk hb0
    clear hb0
    go_enter Try.func5, Try.ntmps5
    go_wp2_with (first | (go_at_call 17; (with_reducible refine (pagerNew_no _).mono ?_); rintro e w1 ⟨rfl, rfl⟩) | (go_at_call 15; (with_reducible refine (Write_no H.out _).mono ?_); rintro e w1 ⟨rfl, rfl⟩) | (go_at_call 16; (with_reducible refine (Read_no H.out _).mono ?_); rintro e w1 ⟨rfl, rfl⟩) | (go_at_call 10; (with_reducible refine (Pages_no H.out).mono ?_); rintro e w1 ⟨rfl, rfl⟩) | (go_at_call 18; (with_reducible refine (Rewrite_no H.out _ _).mono ?_); rintro e w1 ⟨rfl, rfl⟩) | (go_at_call 19; (with_reducible refine (Release_no H.out _).mono ?_); rintro e w1 ⟨rfl, rfl⟩) | (go_at_call 9; (with_reducible refine (Settle_no H.out).mono ?_); rintro e w1 ⟨rfl, rfl⟩) | (go_at_call 13; (with_reducible refine (Undo_no H.out).mono ?_); rintro e w1 ⟨rfl, rfl⟩) | (go_at_call 20; (with_reducible refine (Keep_no H.out _).mono ?_); rintro e w2 ⟨rfl, hb⟩; have H2 := Aside0.mk (H.out.below hb); have HB2 := Aside0.mk (HB.out.trans (hb.mono HB.out.size)); clear hb) | (go_at_call 11; (with_reducible refine (pFree_no H2.out).mono ?_); rintro e w1 ⟨rfl, rfl⟩) | (go_at_call 8; (with_reducible refine (lives_calls _).mono ?_); rintro e w3 ⟨rfl, hb⟩; have HB3 := Aside0.mk (HB2.out.trans (hb.mono HB2.out.size)); clear hb))
    go_ret
    exact ⟨rfl, HB3.out⟩
  | false =>
    have H := Aside0.mk (show NoPager w (.pointer none) from Or.inl rfl)
    have HB := Aside0.mk (Below.refl w.heap.size w)
    go_enter Try.func5, Try.ntmps5
    go_wp2_with (first | (go_at_call 17; (with_reducible refine (pagerNew_no _).mono ?_); rintro e w1 ⟨rfl, rfl⟩) | (go_at_call 15; (with_reducible refine (Write_no H.out _).mono ?_); rintro e w1 ⟨rfl, rfl⟩) | (go_at_call 16; (with_reducible refine (Read_no H.out _).mono ?_); rintro e w1 ⟨rfl, rfl⟩) | (go_at_call 10; (with_reducible refine (Pages_no H.out).mono ?_); rintro e w1 ⟨rfl, rfl⟩) | (go_at_call 18; (with_reducible refine (Rewrite_no H.out _ _).mono ?_); rintro e w1 ⟨rfl, rfl⟩) | (go_at_call 19; (with_reducible refine (Release_no H.out _).mono ?_); rintro e w1 ⟨rfl, rfl⟩) | (go_at_call 9; (with_reducible refine (Settle_no H.out).mono ?_); rintro e w1 ⟨rfl, rfl⟩) | (go_at_call 13; (with_reducible refine (Undo_no H.out).mono ?_); rintro e w1 ⟨rfl, rfl⟩) | (go_at_call 20; (with_reducible refine (Keep_no H.out _).mono ?_); rintro e w2 ⟨rfl, hb⟩; have H2 := Aside0.mk (H.out.below hb); have HB2 := Aside0.mk (HB.out.trans (hb.mono HB.out.size)); clear hb) | (go_at_call 11; (with_reducible refine (pFree_no H2.out).mono ?_); rintro e w1 ⟨rfl, rfl⟩) | (go_at_call 8; (with_reducible refine (lives_calls _).mono ?_); rintro e w3 ⟨rfl, hb⟩; have HB3 := Aside0.mk (HB2.out.trans (hb.mono HB2.out.size)); clear hb))
    go_ret
    exact ⟨rfl, HB3.out⟩
end Go.Proofs.Ytdjpohmgljhhcaa.A
