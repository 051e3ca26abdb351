/- Walk: an instruction by a number. -/
import Derived.Test.YtmofaahhnokohaaCode6
namespace Go.Proofs.Ytmofaahhnokohaa.Code
set_option linter.unusedSimpArgs false
set_option linter.unusedVariables false
open Go.RowKit Go.Proofs.YtmofaahhnokohaaW.PrintWords Go.Proofs.YtmofaahhnokohaaW.PrintLast Go.Proofs.YtmofaahhnokohaaW.PrintMore PCodeAll Go.Proofs.YtmofaahhnokohaaW.CanonE
attribute [local go_sem] max2_mx min2_mn max_two min_two max_three min_three max_four min_four

/-- What an instruction by a number is. -/
structure InsOk (x : S26) (funcs futs n : Int) : Prop where
  ok : shape x = true
  plain : x.f0 ≠ 13 ∧ x.f0 ≠ 15
  jump : x.f0 = 7 → x.f1 < n
  zero : x.f0 = 8 → x.f2 < n
  fork : x.f0 = 9 → x.f2 < funcs
  set : x.f0 = 11 → x.f1 < futs
  get : x.f0 = 12 → x.f2 < futs
theorem Only.far {b g j : Nat} {w w1 : World} (h : Only b w w1) (hg : w.heap.size ≤ g) (v : Value) : Only b w (w1.setCell ⟨g, j, none⟩ v) :=
  ⟨h.os, h.tape, h.output, by simpa [World.setCell] using h.size, fun k hk hb => (Below.heap_setCell w1 ⟨g, j, none⟩ v k (by show k ≠ g; omega)).trans (h.keep k hk hb)⟩
theorem LAt.far {w0 w : World} {b g j : Nat} (h : LAt w0 w b) (hg : b ≠ g) (v : Value) : LAt w0 (w.setCell ⟨g, j, none⟩ v) b := by
  obtain ⟨A, c, xs, h1, h2, h3⟩ := h
  exact ⟨A, c, xs, (Below.heap_setCell w ⟨g, j, none⟩ v b hg).trans h1, h2, h3⟩
theorem LAt.below {w0 w w' : World} {b : Nat} (h : LAt w0 w b) (hb : Below w.heap.size w w') : LAt w0 w' b := by
  obtain ⟨A, c, xs, h1, h2, h3⟩ := h
  exact ⟨A, c, xs, blk_below h1 hb, h2, h3⟩
theorem LAt.lt {w0 w : World} {b : Nat} (h : LAt w0 w b) : b < w.heap.size := by
  obtain ⟨A, c, xs, h1, h2, h3⟩ := h
  exact blk_lt h1
theorem row4' {w : World} {b : Nat} {v0 v1 v2 v3 : Value} {ty : TypeId} (h : w.heap[b]? = some (.cells #[v0, v1, v2, v3] ty (0, 0))) :
    (w.cell? ⟨b, 0, none⟩ = some v0 ∧ w.cell? ⟨b, 1, none⟩ = some v1 ∧ w.cell? ⟨b, 2, none⟩ = some v2 ∧ w.cell? ⟨b, 3, none⟩ = some v3) ∧
    (w.frozen? ⟨b, 0, none⟩ = false ∧ w.frozen? ⟨b, 1, none⟩ = false ∧ w.frozen? ⟨b, 2, none⟩ = false ∧ w.frozen? ⟨b, 3, none⟩ = false) :=
  ⟨⟨cell_of_row w b 0 _ ty (0, 0) h, cell_of_row w b 1 _ ty (0, 0) h, cell_of_row w b 2 _ ty (0, 0) h, cell_of_row w b 3 _ ty (0, 0) h⟩, ⟨blk_frozen h 0, blk_frozen h 1, blk_frozen h 2, blk_frozen h 3⟩⟩
theorem idx6 (k : Int) (h0 : 0 ≤ k) (h1 : k ≤ 5) :
    ∃ o, (∀ W : World, (Instr.index 81 (.agg #[.int .i64 2, .int .i64 3, .int .i64 4, .int .i64 5, .int .i64 6, .int .i64 2]) (.int .i64 k)).run Try.prog W = .ok (.int .i64 o) W) ∧ 2 ≤ o ∧ o ≤ 6 := by
  have hk : k = 0 ∨ k = 1 ∨ k = 2 ∨ k = 3 ∨ k = 4 ∨ k = 5 := by omega
  rcases hk with rfl | rfl | rfl | rfl | rfl | rfl
  · exact ⟨2, fun _ => rfl, by omega, by omega⟩
  · exact ⟨3, fun _ => rfl, by omega, by omega⟩
  · exact ⟨4, fun _ => rfl, by omega, by omega⟩
  · exact ⟨5, fun _ => rfl, by omega, by omega⟩
  · exact ⟨6, fun _ => rfl, by omega, by omega⟩
  · exact ⟨2, fun _ => rfl, by omega, by omega⟩
theorem io_const {a k funcs futs n : Int} (h : 0 ≤ a ∧ a < 4) (hk : -2 ≤ k ∧ k ≤ 4) : InsOk ⟨1, a, k, 0⟩ funcs futs n :=
  ⟨by simp [shape, okOp, kinds, fits, most]; omega, ⟨by simp, by simp⟩, by simp, by simp, by simp, by simp, by simp⟩
theorem io_ar {o a k c funcs futs n : Int} (ho : 2 ≤ o ∧ o ≤ 6) (h : 0 ≤ a ∧ a < 4) (hk : 0 ≤ k ∧ k < 4) (hc : 0 ≤ c ∧ c < 4) : InsOk ⟨o, a, k, c⟩ funcs futs n := by
  have : o = 2 ∨ o = 3 ∨ o = 4 ∨ o = 5 ∨ o = 6 := by omega
  rcases this with rfl | rfl | rfl | rfl | rfl <;>
  exact ⟨by simp [shape, okOp, kinds, fits, most]; omega, ⟨by simp, by simp⟩, by simp, by simp, by simp, by simp, by simp⟩
theorem io_zero {a k funcs futs n : Int} (h : 0 ≤ a ∧ a < 4) (hk : 0 ≤ k ∧ k < n) (hn : n ≤ 20) : InsOk ⟨8, a, k, 0⟩ funcs futs n :=
  ⟨by simp [shape, okOp, kinds, fits, most]; omega, ⟨by simp, by simp⟩, by simp, fun _ => hk.2, by simp, by simp, by simp⟩
theorem io_jump {a funcs futs n : Int} (h : 0 ≤ a ∧ a < n) (hn : n ≤ 20) : InsOk ⟨7, a, 0, 0⟩ funcs futs n :=
  ⟨by simp [shape, okOp, kinds, fits, most]; omega, ⟨by simp, by simp⟩, fun _ => h.2, by simp, by simp, by simp, by simp⟩
theorem io_fork {a k c funcs futs n : Int} (h : 0 ≤ a ∧ a < 4) (hk : 0 ≤ k ∧ k < funcs) (hc : 0 ≤ c ∧ c < 4) (hf : funcs ≤ 4) : InsOk ⟨9, a, k, c⟩ funcs futs n :=
  ⟨by simp [shape, okOp, kinds, fits, most]; omega, ⟨by simp, by simp⟩, by simp, by simp, fun _ => hk.2, by simp, by simp⟩
theorem io_join {a k funcs futs n : Int} (h : 0 ≤ a ∧ a < 4) (hk : 0 ≤ k ∧ k < 4) : InsOk ⟨10, a, k, 0⟩ funcs futs n :=
  ⟨by simp [shape, okOp, kinds, fits, most]; omega, ⟨by simp, by simp⟩, by simp, by simp, by simp, by simp, by simp⟩
theorem io_set {a k funcs futs n : Int} (h : 0 ≤ a ∧ a < futs) (hk : 0 ≤ k ∧ k < 4) (hf : futs ≤ 3) : InsOk ⟨11, a, k, 0⟩ funcs futs n :=
  ⟨by simp [shape, okOp, kinds, fits, most]; omega, ⟨by simp, by simp⟩, by simp, by simp, by simp, fun _ => h.2, by simp⟩
theorem io_get {a k funcs futs n : Int} (h : 0 ≤ a ∧ a < 4) (hk : 0 ≤ k ∧ k < futs) (hf : futs ≤ 3) : InsOk ⟨12, a, k, 0⟩ funcs futs n :=
  ⟨by simp [shape, okOp, kinds, fits, most]; omega, ⟨by simp, by simp⟩, by simp, by simp, by simp, by simp, fun _ => hk.2⟩
theorem io_yield {funcs futs n : Int} : InsOk ⟨14, 0, 0, 0⟩ funcs futs n :=
  ⟨by simp [shape, okOp, kinds, fits, most], ⟨by simp, by simp⟩, by simp, by simp, by simp, by simp, by simp⟩
theorem md (x : Int) {m : Int} (h : 0 < m) : 0 ≤ x % m ∧ x % m < m := ⟨Int.emod_nonneg _ (by omega), Int.emod_lt_of_pos _ h⟩
theorem mn_lt {at_ n x : Int} (ha : 0 ≤ at_ ∧ at_ + 1 < n) : 0 ≤ mn (at_ + 1 + x / 2048 % 4) (n - 1) ∧ mn (at_ + 1 + x / 2048 % 4) (n - 1) < n := by
  simp only [mn]
  split <;> omega
theorem mx_pos (x : Int) : ¬ mx x 1 = 0 := by simp only [mx]; split <;> omega
theorem mx_is {x : Int} (h : 0 < x) : mx x 1 = x := by simp only [mx]; split <;> omega

set_option maxHeartbeats 1000000 in
theorem Ins_calls (w0 w : World) (b : Nat) (funcs futs at_ n : Int) (hf : 1 ≤ funcs ∧ funcs ≤ 4) (hu : 0 ≤ futs ∧ futs ≤ 3) (ha : 0 ≤ at_ ∧ at_ + 1 < n) (hn : n ≤ 20)
    (hL : LAt w0 w b) (hB : Below w0.heap.size w0 w) (hb : w0.heap.size ≤ b) :
    Calls Try.prog 31 #[.pointer (some ⟨b, 0, none⟩), .int .i64 funcs, .int .i64 futs, .int .i64 at_, .int .i64 n] w fun e w' => ∃ x : S26, e = .returned (.agg #[.int .i64 x.f0, .int .i64 x.f1, .int .i64 x.f2, .int .i64 x.f3]) ∧ InsOk x funcs futs n ∧ LAt w0 w' b ∧ Only b w w' := by
  have hlt := hL.lt
  have S0 := Aside0.mk (heap_alloc_new w (.cells #[.int .i64 0, .int .i64 0, .int .i64 0, .int .i64 0] 26))
  have HL0 := Aside0.mk (hL.below (below_alloc (Below.refl _ _) (.cells #[.int .i64 0, .int .i64 0, .int .i64 0, .int .i64 0] 26)))
  have HB0 := Aside0.mk (below_step hB (below_alloc (Below.refl _ _) (.cells #[.int .i64 0, .int .i64 0, .int .i64 0, .int .i64 0] 26)))
  have HO0 := Aside0.mk (Only.of (b := b) (below_alloc (Below.refl w.heap.size w) (.cells #[.int .i64 0, .int .i64 0, .int .i64 0, .int .i64 0] 26)))
  clear hL hB
  go_enter Try.func31, Try.ntmps31
  go_wp2_with (fail)
  have hsz : w.heap.size < (w.alloc (.cells #[.int .i64 0, .int .i64 0, .int .i64 0, .int .i64 0] 26)).heap.size := by rw [World.size_alloc]; omega
  refine (Next_calls w0 _ b 16777216 (by omega) (by omega) HL0.out HB0.out hb).mono ?_
  rintro e w1 ⟨v, rfl, v0, v1, hL1, hO1⟩
  have S1 := Aside0.mk ((hO1.keep w.heap.size hsz (by omega)).trans S0.out)
  have HL1 := Aside0.mk hL1
  have HO1 := Aside0.mk (HO0.out.trans hO1)
  have hg : w.heap.size ≤ w.heap.size := Nat.le_refl _
  have hbg : b ≠ w.heap.size := by omega
  clear hL1 hO1 S0 HL0 HB0 HO0 hsz hlt
  obtain ⟨g, hgg⟩ : ∃ g, w.heap.size = g := ⟨_, rfl⟩
  rw [hgg] at S1 hbg
  replace hg : w.heap.size ≤ g := by omega
  rw [hgg]
  clear hgg
  obtain ⟨⟨p0, p1, p2, p3⟩, ⟨q0, q1, q2, q3⟩⟩ := row4' S1.out
  by_cases c4 : v % 32 < 4
  · go_wp2_with (fail)
    have SX := Aside0.mk (blk_put (blk_put (blk_put (blk_put S1.out 0 (.int .i64 (1)) rfl) 1 (.int .i64 (v / 32 % 4)) rfl) 2 (.int .i64 (v / 2048 % 7 - 2)) rfl) 3 (.int .i64 (0)) (cs' := #[.int .i64 (1), .int .i64 (v / 32 % 4), .int .i64 (v / 2048 % 7 - 2), .int .i64 (0)]) rfl)
    refine bodyPost_ret (results_single rfl (.cell g 26 #[.int .i64 (1), .int .i64 (v / 32 % 4), .int .i64 (v / 2048 % 7 - 2), .int .i64 (0)] (0, 0) _ rfl SX.out Try.underlying26 rfl info26 .nil)) rfl ?_
    exact ⟨⟨1, v / 32 % 4, v / 2048 % 7 - 2, 0⟩, rfl, io_const (md _ (by omega)) (by omega), (((HL1.out.far hbg _).far hbg _).far hbg _).far hbg _, (((HO1.out.far hg _).far hg _).far hg _).far hg _⟩
  by_cases c10 : v % 32 < 10
  · have c4' : 4 ≤ v % 32 := by omega
    clear c4
    obtain ⟨o, ho, HO⟩ : ∃ o, (∀ W, (Instr.index 81 (.agg #[.int .i64 2, .int .i64 3, .int .i64 4, .int .i64 5, .int .i64 6, .int .i64 2]) (.int .i64 (v % 32 - 4))).run Try.prog W = .ok (.int .i64 o) W) ∧ 2 ≤ o ∧ o ≤ 6 := idx6 _ (by omega) (by omega)
    replace HO := Aside0.mk HO
    go_wp2_with (fail)
    have SX := Aside0.mk (blk_put (blk_put (blk_put (blk_put S1.out 0 (.int .i64 (o)) rfl) 1 (.int .i64 (v / 32 % 4)) rfl) 2 (.int .i64 (v / 128 % 4)) rfl) 3 (.int .i64 (v / 512 % 4)) (cs' := #[.int .i64 (o), .int .i64 (v / 32 % 4), .int .i64 (v / 128 % 4), .int .i64 (v / 512 % 4)]) rfl)
    refine bodyPost_ret (results_single rfl (.cell g 26 #[.int .i64 (o), .int .i64 (v / 32 % 4), .int .i64 (v / 128 % 4), .int .i64 (v / 512 % 4)] (0, 0) _ rfl SX.out Try.underlying26 rfl info26 .nil)) rfl ?_
    exact ⟨⟨o, v / 32 % 4, v / 128 % 4, v / 512 % 4⟩, rfl, io_ar HO.out (md _ (by omega)) (md _ (by omega)) (md _ (by omega)), (((HL1.out.far hbg _).far hbg _).far hbg _).far hbg _, (((HO1.out.far hg _).far hg _).far hg _).far hg _⟩
  have c10' : 10 ≤ v % 32 := by omega
  clear c4 c10
  go_wp2_with (fail)
  · have SX := Aside0.mk (blk_put (blk_put (blk_put (blk_put S1.out 0 (.int .i64 (8)) rfl) 1 (.int .i64 (v / 32 % 4)) rfl) 2 (.int .i64 (mn (at_ + 1 + v / 2048 % 4) (n - 1))) rfl) 3 (.int .i64 (0)) (cs' := #[.int .i64 (8), .int .i64 (v / 32 % 4), .int .i64 (mn (at_ + 1 + v / 2048 % 4) (n - 1)), .int .i64 (0)]) rfl)
    refine bodyPost_ret (results_single rfl (.cell g 26 #[.int .i64 (8), .int .i64 (v / 32 % 4), .int .i64 (mn (at_ + 1 + v / 2048 % 4) (n - 1)), .int .i64 (0)] (0, 0) _ rfl SX.out Try.underlying26 rfl info26 .nil)) rfl ?_
    exact ⟨⟨8, v / 32 % 4, mn (at_ + 1 + v / 2048 % 4) (n - 1), 0⟩, rfl, io_zero (md _ (by omega)) (mn_lt ha) hn, (((HL1.out.far hbg _).far hbg _).far hbg _).far hbg _, (((HO1.out.far hg _).far hg _).far hg _).far hg _⟩
  · have SX := Aside0.mk (blk_put (blk_put (blk_put (blk_put S1.out 0 (.int .i64 (7)) rfl) 1 (.int .i64 (v / 2048 % n)) rfl) 2 (.int .i64 (0)) rfl) 3 (.int .i64 (0)) (cs' := #[.int .i64 (7), .int .i64 (v / 2048 % n), .int .i64 (0), .int .i64 (0)]) rfl)
    refine bodyPost_ret (results_single rfl (.cell g 26 #[.int .i64 (7), .int .i64 (v / 2048 % n), .int .i64 (0), .int .i64 (0)] (0, 0) _ rfl SX.out Try.underlying26 rfl info26 .nil)) rfl ?_
    exact ⟨⟨7, v / 2048 % n, 0, 0⟩, rfl, io_jump (md _ (by omega)) hn, (((HL1.out.far hbg _).far hbg _).far hbg _).far hbg _, (((HO1.out.far hg _).far hg _).far hg _).far hg _⟩
  · have SX := Aside0.mk (blk_put (blk_put (blk_put (blk_put S1.out 0 (.int .i64 (9)) rfl) 1 (.int .i64 (v / 32 % 4)) rfl) 2 (.int .i64 (v / 2048 % funcs)) rfl) 3 (.int .i64 (v / 128 % 4)) (cs' := #[.int .i64 (9), .int .i64 (v / 32 % 4), .int .i64 (v / 2048 % funcs), .int .i64 (v / 128 % 4)]) rfl)
    refine bodyPost_ret (results_single rfl (.cell g 26 #[.int .i64 (9), .int .i64 (v / 32 % 4), .int .i64 (v / 2048 % funcs), .int .i64 (v / 128 % 4)] (0, 0) _ rfl SX.out Try.underlying26 rfl info26 .nil)) rfl ?_
    exact ⟨⟨9, v / 32 % 4, v / 2048 % funcs, v / 128 % 4⟩, rfl, io_fork (md _ (by omega)) (md _ (by omega)) (md _ (by omega)) (by omega), (((HL1.out.far hbg _).far hbg _).far hbg _).far hbg _, (((HO1.out.far hg _).far hg _).far hg _).far hg _⟩
  · have SX := Aside0.mk (blk_put (blk_put (blk_put (blk_put S1.out 0 (.int .i64 (10)) rfl) 1 (.int .i64 (v / 32 % 4)) rfl) 2 (.int .i64 (v / 128 % 4)) rfl) 3 (.int .i64 (0)) (cs' := #[.int .i64 (10), .int .i64 (v / 32 % 4), .int .i64 (v / 128 % 4), .int .i64 (0)]) rfl)
    refine bodyPost_ret (results_single rfl (.cell g 26 #[.int .i64 (10), .int .i64 (v / 32 % 4), .int .i64 (v / 128 % 4), .int .i64 (0)] (0, 0) _ rfl SX.out Try.underlying26 rfl info26 .nil)) rfl ?_
    exact ⟨⟨10, v / 32 % 4, v / 128 % 4, 0⟩, rfl, io_join (md _ (by omega)) (md _ (by omega)), (((HL1.out.far hbg _).far hbg _).far hbg _).far hbg _, (((HO1.out.far hg _).far hg _).far hg _).far hg _⟩
  · rename_i hm
    exact absurd hm (mx_pos futs)
  · have SX := Aside0.mk (blk_put (blk_put (blk_put (blk_put S1.out 0 (.int .i64 (11)) rfl) 1 (.int .i64 (v / 2048 % mx futs 1)) rfl) 2 (.int .i64 (v / 32 % 4)) rfl) 3 (.int .i64 (0)) (cs' := #[.int .i64 (11), .int .i64 (v / 2048 % mx futs 1), .int .i64 (v / 32 % 4), .int .i64 (0)]) rfl)
    refine bodyPost_ret (results_single rfl (.cell g 26 #[.int .i64 (11), .int .i64 (v / 2048 % mx futs 1), .int .i64 (v / 32 % 4), .int .i64 (0)] (0, 0) _ rfl SX.out Try.underlying26 rfl info26 .nil)) rfl ?_
    exact ⟨⟨11, v / 2048 % mx futs 1, v / 32 % 4, 0⟩, rfl, io_set (by rw [mx_is (by omega)]; exact md _ (by omega)) (md _ (by omega)) (by omega), (((HL1.out.far hbg _).far hbg _).far hbg _).far hbg _, (((HO1.out.far hg _).far hg _).far hg _).far hg _⟩
  · have SX := Aside0.mk (blk_put (blk_put (blk_put (blk_put S1.out 0 (.int .i64 (2)) rfl) 1 (.int .i64 (v / 32 % 4)) rfl) 2 (.int .i64 (v / 32 % 4)) rfl) 3 (.int .i64 (v / 128 % 4)) (cs' := #[.int .i64 (2), .int .i64 (v / 32 % 4), .int .i64 (v / 32 % 4), .int .i64 (v / 128 % 4)]) rfl)
    refine bodyPost_ret (results_single rfl (.cell g 26 #[.int .i64 (2), .int .i64 (v / 32 % 4), .int .i64 (v / 32 % 4), .int .i64 (v / 128 % 4)] (0, 0) _ rfl SX.out Try.underlying26 rfl info26 .nil)) rfl ?_
    exact ⟨⟨2, v / 32 % 4, v / 32 % 4, v / 128 % 4⟩, rfl, io_ar (by omega) (md _ (by omega)) (md _ (by omega)) (md _ (by omega)), (((HL1.out.far hbg _).far hbg _).far hbg _).far hbg _, (((HO1.out.far hg _).far hg _).far hg _).far hg _⟩
  · rename_i hm
    exact absurd hm (mx_pos futs)
  · have SX := Aside0.mk (blk_put (blk_put (blk_put (blk_put S1.out 0 (.int .i64 (12)) rfl) 1 (.int .i64 (v / 32 % 4)) rfl) 2 (.int .i64 (v / 2048 % mx futs 1)) rfl) 3 (.int .i64 (0)) (cs' := #[.int .i64 (12), .int .i64 (v / 32 % 4), .int .i64 (v / 2048 % mx futs 1), .int .i64 (0)]) rfl)
    refine bodyPost_ret (results_single rfl (.cell g 26 #[.int .i64 (12), .int .i64 (v / 32 % 4), .int .i64 (v / 2048 % mx futs 1), .int .i64 (0)] (0, 0) _ rfl SX.out Try.underlying26 rfl info26 .nil)) rfl ?_
    exact ⟨⟨12, v / 32 % 4, v / 2048 % mx futs 1, 0⟩, rfl, io_get (md _ (by omega)) (by rw [mx_is (by omega)]; exact md _ (by omega)) (by omega), (((HL1.out.far hbg _).far hbg _).far hbg _).far hbg _, (((HO1.out.far hg _).far hg _).far hg _).far hg _⟩
  · have SX := Aside0.mk (blk_put (blk_put (blk_put (blk_put S1.out 0 (.int .i64 (2)) rfl) 1 (.int .i64 (v / 32 % 4)) rfl) 2 (.int .i64 (v / 32 % 4)) rfl) 3 (.int .i64 (v / 128 % 4)) (cs' := #[.int .i64 (2), .int .i64 (v / 32 % 4), .int .i64 (v / 32 % 4), .int .i64 (v / 128 % 4)]) rfl)
    refine bodyPost_ret (results_single rfl (.cell g 26 #[.int .i64 (2), .int .i64 (v / 32 % 4), .int .i64 (v / 32 % 4), .int .i64 (v / 128 % 4)] (0, 0) _ rfl SX.out Try.underlying26 rfl info26 .nil)) rfl ?_
    exact ⟨⟨2, v / 32 % 4, v / 32 % 4, v / 128 % 4⟩, rfl, io_ar (by omega) (md _ (by omega)) (md _ (by omega)) (md _ (by omega)), (((HL1.out.far hbg _).far hbg _).far hbg _).far hbg _, (((HO1.out.far hg _).far hg _).far hg _).far hg _⟩
  · have SX := Aside0.mk (blk_put (blk_put (blk_put (blk_put S1.out 0 (.int .i64 (14)) rfl) 1 (.int .i64 (0)) rfl) 2 (.int .i64 (0)) rfl) 3 (.int .i64 (0)) (cs' := #[.int .i64 (14), .int .i64 (0), .int .i64 (0), .int .i64 (0)]) rfl)
    refine bodyPost_ret (results_single rfl (.cell g 26 #[.int .i64 (14), .int .i64 (0), .int .i64 (0), .int .i64 (0)] (0, 0) _ rfl SX.out Try.underlying26 rfl info26 .nil)) rfl ?_
    exact ⟨⟨14, 0, 0, 0⟩, rfl, io_yield, (((HL1.out.far hbg _).far hbg _).far hbg _).far hbg _, (((HO1.out.far hg _).far hg _).far hg _).far hg _⟩
  · have SX := Aside0.mk (blk_put (blk_put (blk_put (blk_put S1.out 0 (.int .i64 (2)) rfl) 1 (.int .i64 (v / 32 % 4)) rfl) 2 (.int .i64 (v / 32 % 4)) rfl) 3 (.int .i64 (v / 128 % 4)) (cs' := #[.int .i64 (2), .int .i64 (v / 32 % 4), .int .i64 (v / 32 % 4), .int .i64 (v / 128 % 4)]) rfl)
    refine bodyPost_ret (results_single rfl (.cell g 26 #[.int .i64 (2), .int .i64 (v / 32 % 4), .int .i64 (v / 32 % 4), .int .i64 (v / 128 % 4)] (0, 0) _ rfl SX.out Try.underlying26 rfl info26 .nil)) rfl ?_
    exact ⟨⟨2, v / 32 % 4, v / 32 % 4, v / 128 % 4⟩, rfl, io_ar (by omega) (md _ (by omega)) (md _ (by omega)) (md _ (by omega)), (((HL1.out.far hbg _).far hbg _).far hbg _).far hbg _, (((HO1.out.far hg _).far hg _).far hg _).far hg _⟩
end Go.Proofs.Ytmofaahhnokohaa.Code
