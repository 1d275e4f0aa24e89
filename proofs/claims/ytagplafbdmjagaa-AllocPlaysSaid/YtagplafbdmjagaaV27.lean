/- A call of both. -/
import Derived.Test.YtagplafbdmjagaaV26
namespace Go.Proofs.Ytagplafbdmjagaa.A
open Go.RowKit Go.Proofs.YtagplafbdmjagaaW.PrintWords Go.Proofs.YtagplafbdmjagaaW.PrintLast Go.Proofs.YtagplafbdmjagaaW.PrintMore
set_option linter.unusedVariables false
set_option maxHeartbeats 4000000
set_option maxRecDepth 100000
theorem takeR_fun {T : Nat → Bool} {n : Nat} {k : Int} {i j : Nat} {e f : Int} {T1 T2 : Nat → Bool} (h1 : TakeR T n k i e T1) (h2 : TakeR T n k j f T2) : j = i ∧ f = e ∧ T2 = T1 := by
  rcases h1 with ⟨a1, rfl, rfl, rfl⟩ | ⟨a1, a2, a3, rfl, rfl⟩ | ⟨a1, a2, rfl, rfl, rfl⟩ <;> rcases h2 with ⟨b1, rfl, rfl, rfl⟩ | ⟨b1, b2, b3, rfl, rfl⟩ | ⟨b1, b2, rfl, rfl, rfl⟩
  · exact ⟨rfl, rfl, rfl⟩
  · omega
  · omega
  · omega
  · have : j = i := by
      rcases Nat.lt_trichotomy j i with g | g | g
      · exact absurd b2 (a3 j g)
      · exact g
      · exact absurd a2 (b3 i g)
    subst this
    exact ⟨rfl, rfl, rfl⟩
  · exact absurd a2 (b2 i)
  · omega
  · exact absurd b2 (a2 j)
  · exact ⟨rfl, rfl, rfl⟩
theorem claimR_fun {T : Nat → Bool} {n : Nat} {i : Int} {e f : Int} {T1 T2 : Nat → Bool} (h1 : ClaimR T n i e T1) (h2 : ClaimR T n i f T2) : f = e ∧ T2 = T1 := by
  rcases h1 with ⟨a1, rfl, rfl⟩ | ⟨a1, a2, a3, rfl, rfl⟩ | ⟨a1, a2, a3, rfl, rfl⟩ <;> rcases h2 with ⟨b1, rfl, rfl⟩ | ⟨b1, b2, b3, rfl, rfl⟩ | ⟨b1, b2, b3, rfl, rfl⟩ <;>
    first | exact ⟨rfl, rfl⟩ | omega | (rw [a3] at b3; simp at b3)
theorem giveR_fun {T : Nat → Bool} {n : Nat} {i k : Int} {e f : Int} {T1 T2 : Nat → Bool} (h1 : GiveR T n i k e T1) (h2 : GiveR T n i k f T2) : f = e ∧ T2 = T1 := by
  rcases h1 with ⟨a1, rfl, rfl⟩ | ⟨a1, a2, rfl, rfl⟩ | ⟨a1, a2, a3, ⟨j, a4, a5, a6⟩, rfl, rfl⟩ | ⟨a1, a2, a3, a4, rfl, rfl⟩ <;> rcases h2 with ⟨b1, rfl, rfl⟩ | ⟨b1, b2, rfl, rfl⟩ | ⟨b1, b2, b3, ⟨j', b4, b5, b6⟩, rfl, rfl⟩ | ⟨b1, b2, b3, b4, rfl, rfl⟩ <;>
    first | exact ⟨rfl, rfl⟩ | omega | (rw [a4 _ b4 b5] at b6; simp at b6) | (rw [b4 _ a4 a5] at a6; simp at a6)
theorem Claim_as {w : World} {p q n : Nat} {T T' : Nat → Bool} {er : Int} (h : IsAlloc w p q n T) (i : Int) (hr : ClaimR T n i er T') : Calls Try.prog 22 #[.pointer (some ⟨p, 0, none⟩), .int .i64 i] w fun e w' => e = .returned (.int .i64 er) ∧ IsAlloc w' p q n T' ∧ Own q w w' := by
  refine (Claim_calls h i).mono ?_
  rintro e w' ⟨er2, T2, rfl, hr2, ha, ho⟩
  obtain ⟨rfl, rfl⟩ := claimR_fun hr hr2
  exact ⟨rfl, ha, ho⟩
theorem Give_as {w : World} {p q n : Nat} {T T' : Nat → Bool} {er : Int} (h : IsAlloc w p q n T) (i k : Int) (hk : k < 9223372036854775808) (hr : GiveR T n i k er T') : Calls Try.prog 14 #[.pointer (some ⟨p, 0, none⟩), .int .i64 i, .int .i64 k] w fun e w' => e = .returned (.int .i64 er) ∧ IsAlloc w' p q n T' ∧ Own q w w' := by
  refine (Give_calls h i k hk).mono ?_
  rintro e w' ⟨er2, T2, rfl, hr2, ha, ho⟩
  obtain ⟨rfl, rfl⟩ := giveR_fun hr hr2
  exact ⟨rfl, ha, ho⟩
theorem Take_as {w : World} {p q n : Nat} {T T' : Nat → Bool} {i : Nat} {er : Int} (h : IsAlloc w p q n T) (k : Int) (hk : k < 9223372036854775808) (hr : TakeR T n k i er T') : Calls Try.prog 12 #[.pointer (some ⟨p, 0, none⟩), .int .i64 k] w fun e w' => e = .returned (.tuple #[.int .i64 (i : Int), .int .i64 er]) ∧ IsAlloc w' p q n T' ∧ Own q w w' := by
  refine (Take_calls h k hk).mono ?_
  rintro e w' ⟨j, er2, T2, rfl, hr2, ha, ho⟩
  obtain ⟨rfl, rfl, rfl⟩ := takeR_fun hr hr2
  exact ⟨rfl, ha, ho⟩
theorem blk_ne {w : World} {b c : Nat} {x y : Array Value} {t s : TypeId} {f f' : Nat × Nat} (h1 : w.heap[b]? = some (.cells x t f)) (h2 : w.heap[c]? = some (.cells y s f')) (hne : t ≠ s) : b ≠ c := by
  rintro rfl
  rw [h1] at h2
  simp only [Option.some.injEq, Obj.cells.injEq] at h2
  exact hne h2.2.1
theorem blk_ne3 {w : World} {p q n : Nat} {T : Nat → Bool} (h : IsAlloc w p q n T) : (∀ {b : Nat} {x : Array Value}, w.heap[b]? = some (.cells x 50 (0, 0)) → b ≠ q) ∧ (∀ {b : Nat} {x : Array Value}, w.heap[b]? = some (.cells x 44 (0, 0)) → b ≠ q) ∧ (∀ {b m : Nat} {S : Nat → Bool}, BoolsAt w b m S → b ≠ q) := by
  obtain ⟨c, cells, u, h⟩ := h
  refine ⟨fun hb => blk_ne hb h.words (by decide), fun hb => blk_ne hb h.words (by decide), fun hb => ?_⟩
  obtain ⟨x, h1, _⟩ := hb.block
  exact blk_ne h1 h.words (by decide)
theorem IsAlloc.put44 {w : World} {p q n b : Nat} {T : Nat → Bool} {x : Array Value} (h : IsAlloc w p q n T) (hs : w.heap[b]? = some (.cells x 44 (0, 0))) (u : Value) : IsAlloc (w.setCell ⟨b, 0, none⟩ u) p q n T := by
  refine h.own (Own.setCell _ _ _ _) ?_ ?_
  · obtain ⟨c, cells, u, h⟩ := h
    exact blk_ne h.self hs (by decide)
  · obtain ⟨c, cells, u, h⟩ := h
    exact blk_ne h.words hs (by decide)
theorem BoolsAt.put44 {w : World} {g n b : Nat} {T : Nat → Bool} {x : Array Value} (h : BoolsAt w g n T) (hs : w.heap[b]? = some (.cells x 44 (0, 0))) (u : Value) : BoolsAt (w.setCell ⟨b, 0, none⟩ u) g n T := by
  refine h.own (Own.setCell _ _ _ _) ?_
  obtain ⟨y, h1, _⟩ := h.block
  exact blk_ne h1 hs (by decide)
theorem Own.set_new {q b o : Nat} {w w' : World} (h : Own q w w') (hb : w.heap.size ≤ b) (u : Value) : Own q w (w'.setCell ⟨b, o, none⟩ u) :=
  ⟨h.os, h.tape, h.output, by simp [World.setCell]; exact h.size, fun k hk hq => (Below.heap_setCell w' _ _ k (by simp; omega)).trans (h.block k hk hq)⟩
/-- What a call of both leaves. -/
def Stepped (n q : Nat) (w : World) (e : Ending) (w' : World) : Prop :=
  ∃ p' q' T' g' c', e = .returned (.tuple #[.pointer (some ⟨p', 0, none⟩), refV g' n c', .bool true]) ∧ IsAlloc w' p' q' n T' ∧ BoolsAt w' g' n T' ∧ Own q w w' ∧ (q' = q ∨ w.heap.size ≤ q')
theorem step_calls {w : World} {p q n g c : Nat} {T : Nat → Bool} (h : IsAlloc w p q n T) (hb : BoolsAt w g n T) (k i j : Int) (hi : i < 9223372036854775808) (hj : j < 9223372036854775808) : Calls Try.prog 18 #[.pointer (some ⟨p, 0, none⟩), refV g n c, .agg #[.int .i64 k, .int .i64 i, .int .i64 j]] w (Stepped n q w) := by
  have HI := Aside0.mk hi
  have HJ := Aside0.mk hj
  have hn : 1 ≤ n ∧ n ≤ 16384 := by
    obtain ⟨c, cells, u, h⟩ := h
    exact ⟨h.one, h.most⟩
  have HN := Aside0.mk hn
  have HB0 := Aside0.mk (show Below w.heap.size w (((w.alloc (.cells #[.slice (some ⟨g, 0, none⟩) n c] 44)).alloc (.cells #[.int .i64 k, .int .i64 i, .int .i64 j] 50)).alloc (.cells #[.slice none 0 0] 44)) from (((Below.refl _ _).alloc (Nat.le_refl _) _).alloc (by simp) _).alloc (by simp; omega) _)
  have HA0 := Aside0.mk (h.grown HB0.out)
  have HG0 := Aside0.mk (hb.grown HB0.out)
  have HX0 := Aside0.mk (show (((w.alloc (.cells #[.slice (some ⟨g, 0, none⟩) n c] 44)).alloc (.cells #[.int .i64 k, .int .i64 i, .int .i64 j] 50)).alloc (.cells #[.slice none 0 0] 44)).heap[w.heap.size + 1]? = some (.cells #[.int .i64 k, .int .i64 i, .int .i64 j] 50 (0, 0)) from (Below.heap_alloc _ _ _ (by simp)).trans (by
    have := blk_new (w.alloc (.cells #[.slice (some ⟨g, 0, none⟩) n c] 44)) (.cells #[.int .i64 k, .int .i64 i, .int .i64 j] 50)
    simpa using this))
  have HM0 := Aside0.mk (show (((w.alloc (.cells #[.slice (some ⟨g, 0, none⟩) n c] 44)).alloc (.cells #[.int .i64 k, .int .i64 i, .int .i64 j] 50)).alloc (.cells #[.slice none 0 0] 44)).heap[w.heap.size]? = some (.cells #[.slice (some ⟨g, 0, none⟩) n c] 44 (0, 0)) from (Below.heap_alloc _ _ _ (by simp; omega)).trans ((Below.heap_alloc _ _ _ (by simp)).trans (blk_new w _)))
  have HS0 := Aside0.mk (show (((w.alloc (.cells #[.slice (some ⟨g, 0, none⟩) n c] 44)).alloc (.cells #[.int .i64 k, .int .i64 i, .int .i64 j] 50)).alloc (.cells #[.slice none 0 0] 44)).heap[w.heap.size + 1 + 1]? = some (.cells #[.slice none 0 0] 44 (0, 0)) from (by
    have := blk_new ((w.alloc (.cells #[.slice (some ⟨g, 0, none⟩) n c] 44)).alloc (.cells #[.int .i64 k, .int .i64 i, .int .i64 j] 50)) (.cells #[.slice none 0 0] 44)
    simpa using this))
  clear h hb hi hj hn
  by_cases k1 : k = 1
  · subst k1
    go_enter Try.func18, Try.ntmps18
    go_wp2_with fail
    (with_reducible refine (refClaim_calls HG0.out HN.out.1 HN.out.2 i).mono ?_)
    rintro e w1 ⟨er, T', g2, c2, rfl, hr, hbl, hb⟩
    have HR := Aside0.mk hr
    have HG1 := Aside0.mk (show BoolsAt (w1.alloc (.cells #[.slice (some ⟨g2, 0, none⟩) n c2] 44)).drew g2 n T' from hbl.grown (pw_below_drewN ((Below.refl _ _).alloc (Nat.le_refl _) _) 1))
    have HB1 := Aside0.mk (show Below (((w.alloc (.cells #[.slice (some ⟨g, 0, none⟩) n c] 44)).alloc (.cells #[.int .i64 1, .int .i64 i, .int .i64 j] 50)).alloc (.cells #[.slice none 0 0] 44)).heap.size (((w.alloc (.cells #[.slice (some ⟨g, 0, none⟩) n c] 44)).alloc (.cells #[.int .i64 1, .int .i64 i, .int .i64 j] 50)).alloc (.cells #[.slice none 0 0] 44)) (w1.alloc (.cells #[.slice (some ⟨g2, 0, none⟩) n c2] 44)).drew from pw_below_drewN (hb.alloc hb.size _) 1)
    have HA1 := Aside0.mk (HA0.out.grown HB1.out)
    have HX1 := Aside0.mk ((HB1.out.block _ (blk_lt HX0.out)).trans HX0.out)
    have HS1 := Aside0.mk ((HB1.out.block _ (blk_lt HS0.out)).trans HS0.out)
    have HM1 := Aside0.mk (show (w1.alloc (.cells #[.slice (some ⟨g2, 0, none⟩) n c2] 44)).drew.heap[w1.heap.size]? = some (.cells #[.slice (some ⟨g2, 0, none⟩) n c2] 44 (0, 0)) from blk_new w1 _)
    have hsz := hb.size
    simp at hsz
    have hne1 : ¬ w1.heap.size = w.heap.size + 1 + 1 := by omega
    have hne2 : ¬ w.heap.size + 1 + 1 = w1.heap.size := by omega
    have hcx : w1.cell? ⟨w.heap.size + 1, 1, none⟩ = some (.int .i64 i) := (blk_cell ((hb.block _ (blk_lt HX0.out)).trans HX0.out) 1).trans rfl
    have hcs : w1.cell? ⟨w.heap.size + 1 + 1, 0, none⟩ = some (.slice none 0 0) := (blk_cell ((hb.block _ (blk_lt HS0.out)).trans HS0.out) 0).trans rfl
    have hfs : w1.frozen? ⟨w.heap.size + 1 + 1, 0, none⟩ = false := by simp [World.frozen?, (hb.block _ (blk_lt HS0.out)).trans HS0.out]
    clear hr hbl hb hsz
    go_wp2
    go_region_held3 (fun w' => w'.cell? ⟨w.heap.size + 1, 1, none⟩ = some (.int .i64 i) ∧ w'.cell? ⟨w1.heap.size, 0, none⟩ = some (.slice (some ⟨g2, 0, none⟩) n c2)) (go_keep) (first | (go_at_call 22; (with_reducible refine (Claim_as HA1.out i HR.out).mono ?_); rintro e w2 ⟨rfl, ha, ho⟩; have HA2 := Aside0.mk ha; have hne := blk_ne3 HA1.out; have hx2 := (ho.block _ (blk_lt HX1.out) (hne.1 HX1.out)).trans HX1.out; have hs2 := (ho.block _ (blk_lt HS1.out) (hne.2.1 HS1.out)).trans HS1.out; have hm2 := (ho.block _ (blk_lt HM1.out) (hne.2.1 HM1.out)).trans HM1.out; have HG2 := Aside0.mk (HG1.out.own ho (hne.2.2 HG1.out)); have HS2 := Aside0.mk hs2; have HO2 := Aside0.mk ho; have hcx2 : w2.cell? ⟨w.heap.size + 1, 1, none⟩ = some (.int .i64 i) := (blk_cell hx2 1).trans rfl; have hcm2 : w2.cell? ⟨w1.heap.size, 0, none⟩ = some (.slice (some ⟨g2, 0, none⟩) n c2) := (blk_cell hm2 0).trans rfl; have hcs2 : w2.cell? ⟨w.heap.size + 1 + 1, 0, none⟩ = some (.slice none 0 0) := (blk_cell hs2 0).trans rfl; have hfs2 : w2.frozen? ⟨w.heap.size + 1 + 1, 0, none⟩ = false := (by simp [World.frozen?, hs2]); clear ha ho hne hx2 hs2 hm2))
    go_wp2
    have hres := res_cell HS2.out (.slice (some ⟨g2, 0, none⟩) n c2)
    exact bodyPost_ret (v := .tuple #[.pointer (some ⟨p, 0, none⟩), refV g2 n c2, .bool true]) (by simp [results, Try.results18, go_sem, hres]) rfl ⟨p, q, T', g2, c2, rfl, HA2.out.put44 HS2.out _, HG2.out.put44 HS2.out _, Own.set_new ((Own.of_below (HB0.out.trans (HB1.out.mono HB0.out.size))).trans HO2.out) (by omega) _, Or.inl rfl⟩
  · by_cases k2 : k = 2
    · subst k2
      go_enter Try.func18, Try.ntmps18
      go_wp2_with fail
      (with_reducible refine (refGive_calls HG0.out HN.out.1 HN.out.2 i j).mono ?_)
      rintro e w1 ⟨er, T', g2, c2, rfl, hr, hbl, hb⟩
      have HR := Aside0.mk hr
      have HG1 := Aside0.mk (show BoolsAt (w1.alloc (.cells #[.slice (some ⟨g2, 0, none⟩) n c2] 44)).drew g2 n T' from hbl.grown (pw_below_drewN ((Below.refl _ _).alloc (Nat.le_refl _) _) 1))
      have HB1 := Aside0.mk (show Below (((w.alloc (.cells #[.slice (some ⟨g, 0, none⟩) n c] 44)).alloc (.cells #[.int .i64 2, .int .i64 i, .int .i64 j] 50)).alloc (.cells #[.slice none 0 0] 44)).heap.size (((w.alloc (.cells #[.slice (some ⟨g, 0, none⟩) n c] 44)).alloc (.cells #[.int .i64 2, .int .i64 i, .int .i64 j] 50)).alloc (.cells #[.slice none 0 0] 44)) (w1.alloc (.cells #[.slice (some ⟨g2, 0, none⟩) n c2] 44)).drew from pw_below_drewN (hb.alloc hb.size _) 1)
      have HA1 := Aside0.mk (HA0.out.grown HB1.out)
      have HX1 := Aside0.mk ((HB1.out.block _ (blk_lt HX0.out)).trans HX0.out)
      have HS1 := Aside0.mk ((HB1.out.block _ (blk_lt HS0.out)).trans HS0.out)
      have HM1 := Aside0.mk (show (w1.alloc (.cells #[.slice (some ⟨g2, 0, none⟩) n c2] 44)).drew.heap[w1.heap.size]? = some (.cells #[.slice (some ⟨g2, 0, none⟩) n c2] 44 (0, 0)) from blk_new w1 _)
      have hsz := hb.size
      simp at hsz
      have hne1 : ¬ w1.heap.size = w.heap.size + 1 + 1 := by omega
      have hne2 : ¬ w.heap.size + 1 + 1 = w1.heap.size := by omega
      have hcx : w1.cell? ⟨w.heap.size + 1, 1, none⟩ = some (.int .i64 i) := (blk_cell ((hb.block _ (blk_lt HX0.out)).trans HX0.out) 1).trans rfl
      have hcy : w1.cell? ⟨w.heap.size + 1, 2, none⟩ = some (.int .i64 j) := (blk_cell ((hb.block _ (blk_lt HX0.out)).trans HX0.out) 2).trans rfl
      have hcs : w1.cell? ⟨w.heap.size + 1 + 1, 0, none⟩ = some (.slice none 0 0) := (blk_cell ((hb.block _ (blk_lt HS0.out)).trans HS0.out) 0).trans rfl
      have hfs : w1.frozen? ⟨w.heap.size + 1 + 1, 0, none⟩ = false := by simp [World.frozen?, (hb.block _ (blk_lt HS0.out)).trans HS0.out]
      clear hr hbl hb hsz
      go_wp2
      go_region_held3 (fun w' => w'.cell? ⟨w.heap.size + 1, 1, none⟩ = some (.int .i64 i) ∧ w'.cell? ⟨w.heap.size + 1, 2, none⟩ = some (.int .i64 j) ∧ w'.cell? ⟨w1.heap.size, 0, none⟩ = some (.slice (some ⟨g2, 0, none⟩) n c2)) (go_keep) (first | (go_at_call 14; (with_reducible refine (Give_as HA1.out i j HJ.out HR.out).mono ?_); rintro e w2 ⟨rfl, ha, ho⟩; have HA2 := Aside0.mk ha; have hne := blk_ne3 HA1.out; have hx2 := (ho.block _ (blk_lt HX1.out) (hne.1 HX1.out)).trans HX1.out; have hs2 := (ho.block _ (blk_lt HS1.out) (hne.2.1 HS1.out)).trans HS1.out; have hm2 := (ho.block _ (blk_lt HM1.out) (hne.2.1 HM1.out)).trans HM1.out; have HG2 := Aside0.mk (HG1.out.own ho (hne.2.2 HG1.out)); have HS2 := Aside0.mk hs2; have HO2 := Aside0.mk ho; have hcx2 : w2.cell? ⟨w.heap.size + 1, 1, none⟩ = some (.int .i64 i) := (blk_cell hx2 1).trans rfl; have hcy2 : w2.cell? ⟨w.heap.size + 1, 2, none⟩ = some (.int .i64 j) := (blk_cell hx2 2).trans rfl; have hcm2 : w2.cell? ⟨w1.heap.size, 0, none⟩ = some (.slice (some ⟨g2, 0, none⟩) n c2) := (blk_cell hm2 0).trans rfl; have hcs2 : w2.cell? ⟨w.heap.size + 1 + 1, 0, none⟩ = some (.slice none 0 0) := (blk_cell hs2 0).trans rfl; have hfs2 : w2.frozen? ⟨w.heap.size + 1 + 1, 0, none⟩ = false := (by simp [World.frozen?, hs2]); clear ha ho hne hx2 hs2 hm2))
      go_wp2
      have hres := res_cell HS2.out (.slice (some ⟨g2, 0, none⟩) n c2)
      exact bodyPost_ret (v := .tuple #[.pointer (some ⟨p, 0, none⟩), refV g2 n c2, .bool true]) (by simp [results, Try.results18, go_sem, hres]) rfl ⟨p, q, T', g2, c2, rfl, HA2.out.put44 HS2.out _, HG2.out.put44 HS2.out _, Own.set_new ((Own.of_below (HB0.out.trans (HB1.out.mono HB0.out.size))).trans HO2.out) (by omega) _, Or.inl rfl⟩
    · by_cases k3 : k = 3
      · subst k3
        go_enter Try.func18, Try.ntmps18
        go_wp2_with fail
        (with_reducible refine (Copy_calls HA0.out).mono ?_)
        rintro e w1 ⟨p1, q1, rfl, hp1, hq1, ha1, hb1⟩
        have hlt := blk_lt_alloc HA0.out
        have HA1 := Aside0.mk (HA0.out.grown hb1)
        have HC1 := Aside0.mk ha1
        have HB1 := Aside0.mk hb1
        have hne1 : p1 ≠ q := by omega
        have hne2 : q1 ≠ q := by omega
        have HNE := Aside0.mk (And.intro hne1 hne2)
        have HQ1 := Aside0.mk (Nat.le_trans HB0.out.size hq1)
        clear hp1 hq1 ha1 hb1 hlt hne1 hne2
        go_wp2_with fail
        (with_reducible refine (Take_calls HA1.out 1 (by decide)).mono ?_)
        rintro e w2 ⟨ti, er, T', rfl, hr, ha, ho⟩
        have HC2 := Aside0.mk (HC1.out.own ho HNE.out.1 HNE.out.2)
        have HX1 := Aside0.mk ((HB1.out.block _ (blk_lt HM0.out)).trans HM0.out)
        have HS1 := Aside0.mk ((HB1.out.block _ (blk_lt HS0.out)).trans HS0.out)
        have hne := blk_ne3 HA1.out
        have HX2 := Aside0.mk ((ho.block _ (blk_lt HX1.out) (hne.2.1 HX1.out)).trans HX1.out)
        have HS2 := Aside0.mk ((ho.block _ (blk_lt HS1.out) (hne.2.1 HS1.out)).trans HS1.out)
        have HG2 := Aside0.mk ((HG0.out.grown HB1.out).own ho (hne.2.2 (HG0.out.grown HB1.out)))
        have HO2 := Aside0.mk (((Own.of_below (HB0.out.trans (HB1.out.mono HB0.out.size))).trans ho))
        have hne4 : ¬ w.heap.size = w.heap.size + 1 + 1 := by omega
        have hne5 : ¬ w.heap.size + 1 + 1 = w.heap.size := by omega
        have hcx : w2.cell? ⟨w.heap.size, 0, none⟩ = some (.slice (some ⟨g, 0, none⟩) n c) := (blk_cell HX2.out 0).trans rfl
        have hcs : w2.cell? ⟨w.heap.size + 1 + 1, 0, none⟩ = some (.slice none 0 0) := (blk_cell HS2.out 0).trans rfl
        have hfs : w2.frozen? ⟨w.heap.size + 1 + 1, 0, none⟩ = false := by simp [World.frozen?, HS2.out]
        clear hr ha ho hne
        go_wp2
        go_region_held3 (fun w' => w'.cell? ⟨w.heap.size, 0, none⟩ = some (.slice (some ⟨g, 0, none⟩) n c)) (go_keep) (fail)
        go_wp2
        have hres := res_cell HS2.out (.slice (some ⟨g, 0, none⟩) n c)
        exact bodyPost_ret (v := .tuple #[.pointer (some ⟨p1, 0, none⟩), refV g n c, .bool true]) (by simp [results, Try.results18, go_sem, hres]) rfl ⟨p1, q1, T, g, c, rfl, (HC2.out.put44 HS2.out _).drawn ⟨⟨1, rfl⟩⟩, (HG2.out.put44 HS2.out _).drawn ⟨⟨1, rfl⟩⟩, (Own.set_new HO2.out (by omega) _).trans (Own.drawn ⟨⟨1, rfl⟩⟩), Or.inr HQ1.out⟩
      · go_enter Try.func18, Try.ntmps18
        go_wp2_with fail
        (with_reducible refine (refTake_calls HG0.out HN.out.1 HN.out.2 j HJ.out).mono ?_)
        rintro e w1 ⟨ti, er, T', g2, c2, rfl, hr, hbl, hb⟩
        have HR := Aside0.mk hr
        have HG1 := Aside0.mk (show BoolsAt (w1.alloc (.cells #[.slice (some ⟨g2, 0, none⟩) n c2] 44)) g2 n T' from hbl.grown ((Below.refl _ _).alloc (Nat.le_refl _) _))
        have HB1 := Aside0.mk (hb.alloc hb.size (.cells #[.slice (some ⟨g2, 0, none⟩) n c2] 44))
        have HA1 := Aside0.mk (HA0.out.grown HB1.out)
        have HX1 := Aside0.mk ((HB1.out.block _ (blk_lt HX0.out)).trans HX0.out)
        have HS1 := Aside0.mk ((HB1.out.block _ (blk_lt HS0.out)).trans HS0.out)
        have HM1 := Aside0.mk (show (w1.alloc (.cells #[.slice (some ⟨g2, 0, none⟩) n c2] 44)).heap[w1.heap.size]? = some (.cells #[.slice (some ⟨g2, 0, none⟩) n c2] 44 (0, 0)) from blk_new w1 _)
        have hsz := hb.size
        simp at hsz
        have hne1 : ¬ w1.heap.size = w.heap.size + 1 + 1 := by omega
        have hne2 : ¬ w.heap.size + 1 + 1 = w1.heap.size := by omega
        have hcx : (w1.alloc (.cells #[.slice (some ⟨g2, 0, none⟩) n c2] 44)).cell? ⟨w.heap.size + 1, 2, none⟩ = some (.int .i64 j) := (blk_cell HX1.out 2).trans rfl
        clear hr hbl hb hsz
        go_wp2_with fail
        (with_reducible refine (Take_as HA1.out j HJ.out HR.out).mono ?_)
        rintro e w2 ⟨rfl, ha, ho⟩
        have HA2 := Aside0.mk ha
        have hne := blk_ne3 HA1.out
        have HS2 := Aside0.mk ((ho.block _ (blk_lt HS1.out) (hne.2.1 HS1.out)).trans HS1.out)
        have HM2 := Aside0.mk ((ho.block _ (blk_lt HM1.out) (hne.2.1 HM1.out)).trans HM1.out)
        have HG2 := Aside0.mk (HG1.out.own ho (hne.2.2 HG1.out))
        have HO2 := Aside0.mk (((Own.of_below (HB0.out.trans (HB1.out.mono HB0.out.size))).trans ho))
        have hcm : w2.cell? ⟨w1.heap.size, 0, none⟩ = some (.slice (some ⟨g2, 0, none⟩) n c2) := (blk_cell HM2.out 0).trans rfl
        have hcs : w2.cell? ⟨w.heap.size + 1 + 1, 0, none⟩ = some (.slice none 0 0) := (blk_cell HS2.out 0).trans rfl
        have hfs : w2.frozen? ⟨w.heap.size + 1 + 1, 0, none⟩ = false := by simp [World.frozen?, HS2.out]
        clear ha ho hne
        go_wp2
        go_region_held3 (fun w' => w'.cell? ⟨w1.heap.size, 0, none⟩ = some (.slice (some ⟨g2, 0, none⟩) n c2)) (go_keep) (fail)
        go_wp2
        have hres := res_cell HS2.out (.slice (some ⟨g2, 0, none⟩) n c2)
        exact bodyPost_ret (v := .tuple #[.pointer (some ⟨p, 0, none⟩), refV g2 n c2, .bool true]) (by simp [results, Try.results18, go_sem, hres]) rfl ⟨p, q, T', g2, c2, rfl, (HA2.out.put44 HS2.out _).drawn ⟨⟨1, rfl⟩⟩, (HG2.out.put44 HS2.out _).drawn ⟨⟨1, rfl⟩⟩, (Own.set_new HO2.out (by omega) _).trans (Own.drawn ⟨⟨1, rfl⟩⟩), Or.inl rfl⟩
end Go.Proofs.Ytagplafbdmjagaa.A
