/- The walk of CodeShapes. -/
import Derived.Test.YtmofaahhnokohaaCode5
import Derived.MapKept
namespace Go.Proofs.Ytmofaahhnokohaa.CodeShapes
set_option linter.unusedSimpArgs false
set_option linter.unusedVariables false
open Go.RowKit Go.Proofs.YtmofaahhnokohaaW.PrintWords Go.Proofs.YtmofaahhnokohaaW.PrintLast Go.Proofs.YtmofaahhnokohaaW.PrintMore PCodeAll Go.Proofs.YtmofaahhnokohaaW.CanonE Go.Proofs.Ytmofaahhnokohaa.Code
attribute [local go_sem] max2_mx min2_mn max_two min_two max_three min_three max_four min_four

theorem push_set {α : Type} (a : Array α) (x y : α) : (a.push x).setIfInBounds a.size y = a.push y := by
  apply Array.ext_getElem?
  intro i
  rw [Array.getElem?_setIfInBounds, Array.getElem?_push, Array.getElem?_push]
  by_cases h : a.size = i
  · subst h; simp
  · rw [if_neg h, if_neg (Ne.symm h), if_neg (Ne.symm h)]
theorem upd (w : World) (es : Array MapEntry) (clk : Nat) (k : Int) (v : Value) (h : Instr.findNow (.int .i64) (.int .i64 k) es.toList 0 = some none) :
    (Instr.mapUpdate 24 (.map (some w.heap.size)) (.int .i64 k) v).run Try.prog (w.alloc (.map es clk)) = .ok () (w.alloc (.map (es.push ⟨.int .i64 k, v, clk⟩) (clk + 1))) := by
  have hg : (w.alloc (.map es clk)).heap[w.heap.size]? = some (.map es clk) := heap_alloc_new w _
  have hs := MapKept.run_setObj_map (P := Try.prog) (w := w.alloc (.map es clk)) (r := w.heap.size) (.map (es.push ⟨.int .i64 k, v, clk⟩) (clk + 1)) hg
  have he : ({ w.alloc (.map es clk) with heap := (w.alloc (.map es clk)).heap.setIfInBounds w.heap.size (.map (es.push ⟨.int .i64 k, v, clk⟩) (clk + 1)) } : World) = w.alloc (.map (es.push ⟨.int .i64 k, v, clk⟩) (clk + 1)) := by
    show ({ w with heap := (w.heap.push (.map es clk)).setIfInBounds w.heap.size _ } : World) = _
    rw [push_set]
    rfl
  rw [he] at hs
  have hk : MapKept.IsKey (.int .i64) (.int .i64 k) := by simp [MapKept.IsKey]
  simp [Instr.mapUpdate, run_underlying Try.underlying24, MapKept.run_getObj_map hg, MapKept.run_checkKey Try.underlying3 hk, MapKept.run_findKey Try.underlying3 h, hs, Result.andThen]
/-- The map's entries, in the order of the text. -/
def entL : List (Int × Int × Int × Int) := [(2, 7, 7, 7), (3, 7, 7, 7), (4, 7, 7, 7), (5, 7, 7, 7), (6, 7, 7, 7), (1, 7, 2147483647, 0), (7, 39, 0, 0), (8, 7, 39, 0), (9, 3, 11, 7), (10, 7, 3, 0), (11, 15, 7, 0), (12, 7, 15, 0), (13, 3, 0, 0), (14, 0, 0, 0), (15, 7, 0, 0)]
def ent (n : Nat) : Array MapEntry := ((entL.take n).zipIdx.map (fun y => (⟨.int .i64 y.1.1, .agg #[.int .i64 y.1.2.1, .int .i64 y.1.2.2.1, .int .i64 y.1.2.2.2], y.2⟩ : MapEntry))).toArray
def mostOf (o : Int) : Int × Int × Int :=
  if o = 1 then (7, 2147483647, 0) else if o = 2 ∨ o = 3 ∨ o = 4 ∨ o = 5 ∨ o = 6 then (7, 7, 7) else if o = 7 then (39, 0, 0) else if o = 8 then (7, 39, 0) else if o = 9 then (3, 11, 7)
  else if o = 10 then (7, 3, 0) else if o = 11 then (15, 7, 0) else if o = 12 then (7, 15, 0) else if o = 13 then (3, 0, 0) else if o = 14 then (0, 0, 0) else (7, 0, 0)
theorem look (w : World) (o : Int) (h0 : 1 ≤ o) (h1 : o ≤ 15) :
    (Instr.lookup 24 (.map (some w.heap.size)) (.int .i64 o) false).run Try.prog (w.alloc (.map (ent 15) 15)) = .ok (.agg #[.int .i64 (mostOf o).1, .int .i64 (mostOf o).2.1, .int .i64 (mostOf o).2.2]) (w.alloc (.map (ent 15) 15)) := by
  have hg : (w.alloc (.map (ent 15) 15)).heap[w.heap.size]? = some (.map (ent 15) 15) := heap_alloc_new w _
  have hf : ∃ i, Instr.findNow (.int .i64) (.int .i64 o) (ent 15).toList 0 = some (some (i, .agg #[.int .i64 (mostOf o).1, .int .i64 (mostOf o).2.1, .int .i64 (mostOf o).2.2])) := by
    have hc : o = 1 ∨ o = 2 ∨ o = 3 ∨ o = 4 ∨ o = 5 ∨ o = 6 ∨ o = 7 ∨ o = 8 ∨ o = 9 ∨ o = 10 ∨ o = 11 ∨ o = 12 ∨ o = 13 ∨ o = 14 ∨ o = 15 := by omega
    rcases hc with rfl | rfl | rfl | rfl | rfl | rfl | rfl | rfl | rfl | rfl | rfl | rfl | rfl | rfl | rfl <;> exact ⟨_, rfl⟩
  obtain ⟨i, hf⟩ := hf
  have hk : MapKept.IsKey (.int .i64) (.int .i64 o) := by simp [MapKept.IsKey]
  simp [Instr.lookup, run_underlying Try.underlying24, MapKept.run_getObj_map hg, MapKept.run_checkKey Try.underlying3 hk, MapKept.run_findKey Try.underlying3 hf, Result.andThen]
theorem shapes (o k : Int) (h0 : 1 ≤ o) (h1 : o ≤ 15) (k0 : 1 ≤ k) (k1 : k ≤ 100) :
    Code.shape ⟨o, (mostOf o).1, (mostOf o).2.1, (mostOf o).2.2⟩ = true ∧ Code.shape ⟨o, 0, 0, 0⟩ = true ∧ Code.shape ⟨15 + k, 0, 0, 0⟩ = false ∧ Code.shape ⟨1 - k, 0, 0, 0⟩ = false ∧
    Code.shape ⟨o, (mostOf o).1 + k, (mostOf o).2.1, (mostOf o).2.2⟩ = false ∧ Code.shape ⟨o, (mostOf o).1, (mostOf o).2.1 + k, (mostOf o).2.2⟩ = false ∧ Code.shape ⟨o, (mostOf o).1, (mostOf o).2.1, (mostOf o).2.2 + k⟩ = false ∧ Code.shape ⟨o, -k, (mostOf o).2.1, (mostOf o).2.2⟩ = false := by
  have hc : o = 1 ∨ o = 2 ∨ o = 3 ∨ o = 4 ∨ o = 5 ∨ o = 6 ∨ o = 7 ∨ o = 8 ∨ o = 9 ∨ o = 10 ∨ o = 11 ∨ o = 12 ∨ o = 13 ∨ o = 14 ∨ o = 15 := by omega
  refine ⟨?_, ?_, ?_, ?_, ?_, ?_, ?_, ?_⟩
  · rcases hc with rfl | rfl | rfl | rfl | rfl | rfl | rfl | rfl | rfl | rfl | rfl | rfl | rfl | rfl | rfl <;> decide
  · rcases hc with rfl | rfl | rfl | rfl | rfl | rfl | rfl | rfl | rfl | rfl | rfl | rfl | rfl | rfl | rfl <;> decide
  · have : okOp (15 + k) = false := decide_eq_false (by omega)
    simp [Code.shape, this]
  · have : okOp (1 - k) = false := decide_eq_false (by omega)
    simp [Code.shape, this]
  all_goals (rcases hc with rfl | rfl | rfl | rfl | rfl | rfl | rfl | rfl | rfl | rfl | rfl | rfl | rfl | rfl | rfl <;> simp [Code.shape, Code.okOp, Code.kinds, Code.fits, Code.most, mostOf] <;> omega)
theorem mostOf_range (o : Int) : 0 ≤ (mostOf o).1 ∧ (mostOf o).1 ≤ 2147483647 ∧ 0 ≤ (mostOf o).2.1 ∧ (mostOf o).2.1 ≤ 2147483647 ∧ 0 ≤ (mostOf o).2.2 ∧ (mostOf o).2.2 ≤ 2147483647 := by
  unfold mostOf
  (repeat' split) <;> decide
theorem row4 {w : World} {b : Nat} {v0 v1 v2 v3 : Value} {ty : TypeId} (h : w.heap[b]? = some (.cells #[v0, v1, v2, v3] ty (0, 0))) :
    (w.cell? ⟨b, 0, none⟩ = some v0 ∧ w.cell? ⟨b, 1, none⟩ = some v1 ∧ w.cell? ⟨b, 2, none⟩ = some v2 ∧ w.cell? ⟨b, 3, none⟩ = some v3) ∧
    (w.frozen? ⟨b, 0, none⟩ = false ∧ w.frozen? ⟨b, 1, none⟩ = false ∧ w.frozen? ⟨b, 2, none⟩ = false ∧ w.frozen? ⟨b, 3, none⟩ = false) :=
  ⟨⟨cell_of_row w b 0 _ ty (0, 0) h, cell_of_row w b 1 _ ty (0, 0) h, cell_of_row w b 2 _ ty (0, 0) h, cell_of_row w b 3 _ ty (0, 0) h⟩, ⟨blk_frozen h 0, blk_frozen h 1, blk_frozen h 2, blk_frozen h 3⟩⟩

set_option maxRecDepth 20000 in
set_option maxHeartbeats 1000000 in
theorem CodeShapes_calls (op which far : Int) (w : World) :
    Calls Try.prog 3 #[.int .i64 op, .int .i64 which, .int .i64 far] w fun e w' => e = .returned (.bool true) ∧ Below w.heap.size w w' := by
  have u0 : (Instr.mapUpdate 24 (.map (some w.heap.size)) (.int .i64 2) (.agg #[.int .i64 7, .int .i64 7, .int .i64 7])).run Try.prog (w.alloc (.map #[] 0)) = .ok () (w.alloc (.map (ent 1) 1)) := upd w (ent 0) 0 2 _ rfl
  have u1 : (Instr.mapUpdate 24 (.map (some w.heap.size)) (.int .i64 3) (.agg #[.int .i64 7, .int .i64 7, .int .i64 7])).run Try.prog (w.alloc (.map (ent 1) 1)) = .ok () (w.alloc (.map (ent 2) 2)) := upd w (ent 1) 1 3 _ rfl
  have u2 : (Instr.mapUpdate 24 (.map (some w.heap.size)) (.int .i64 4) (.agg #[.int .i64 7, .int .i64 7, .int .i64 7])).run Try.prog (w.alloc (.map (ent 2) 2)) = .ok () (w.alloc (.map (ent 3) 3)) := upd w (ent 2) 2 4 _ rfl
  have u3 : (Instr.mapUpdate 24 (.map (some w.heap.size)) (.int .i64 5) (.agg #[.int .i64 7, .int .i64 7, .int .i64 7])).run Try.prog (w.alloc (.map (ent 3) 3)) = .ok () (w.alloc (.map (ent 4) 4)) := upd w (ent 3) 3 5 _ rfl
  have u4 : (Instr.mapUpdate 24 (.map (some w.heap.size)) (.int .i64 6) (.agg #[.int .i64 7, .int .i64 7, .int .i64 7])).run Try.prog (w.alloc (.map (ent 4) 4)) = .ok () (w.alloc (.map (ent 5) 5)) := upd w (ent 4) 4 6 _ rfl
  have u5 : (Instr.mapUpdate 24 (.map (some w.heap.size)) (.int .i64 1) (.agg #[.int .i64 7, .int .i64 2147483647, .int .i64 0])).run Try.prog (w.alloc (.map (ent 5) 5)) = .ok () (w.alloc (.map (ent 6) 6)) := upd w (ent 5) 5 1 _ rfl
  have u6 : (Instr.mapUpdate 24 (.map (some w.heap.size)) (.int .i64 7) (.agg #[.int .i64 39, .int .i64 0, .int .i64 0])).run Try.prog (w.alloc (.map (ent 6) 6)) = .ok () (w.alloc (.map (ent 7) 7)) := upd w (ent 6) 6 7 _ rfl
  have u7 : (Instr.mapUpdate 24 (.map (some w.heap.size)) (.int .i64 8) (.agg #[.int .i64 7, .int .i64 39, .int .i64 0])).run Try.prog (w.alloc (.map (ent 7) 7)) = .ok () (w.alloc (.map (ent 8) 8)) := upd w (ent 7) 7 8 _ rfl
  have u8 : (Instr.mapUpdate 24 (.map (some w.heap.size)) (.int .i64 9) (.agg #[.int .i64 3, .int .i64 11, .int .i64 7])).run Try.prog (w.alloc (.map (ent 8) 8)) = .ok () (w.alloc (.map (ent 9) 9)) := upd w (ent 8) 8 9 _ rfl
  have u9 : (Instr.mapUpdate 24 (.map (some w.heap.size)) (.int .i64 10) (.agg #[.int .i64 7, .int .i64 3, .int .i64 0])).run Try.prog (w.alloc (.map (ent 9) 9)) = .ok () (w.alloc (.map (ent 10) 10)) := upd w (ent 9) 9 10 _ rfl
  have u10 : (Instr.mapUpdate 24 (.map (some w.heap.size)) (.int .i64 11) (.agg #[.int .i64 15, .int .i64 7, .int .i64 0])).run Try.prog (w.alloc (.map (ent 10) 10)) = .ok () (w.alloc (.map (ent 11) 11)) := upd w (ent 10) 10 11 _ rfl
  have u11 : (Instr.mapUpdate 24 (.map (some w.heap.size)) (.int .i64 12) (.agg #[.int .i64 7, .int .i64 15, .int .i64 0])).run Try.prog (w.alloc (.map (ent 11) 11)) = .ok () (w.alloc (.map (ent 12) 12)) := upd w (ent 11) 11 12 _ rfl
  have u12 : (Instr.mapUpdate 24 (.map (some w.heap.size)) (.int .i64 13) (.agg #[.int .i64 3, .int .i64 0, .int .i64 0])).run Try.prog (w.alloc (.map (ent 12) 12)) = .ok () (w.alloc (.map (ent 13) 13)) := upd w (ent 12) 12 13 _ rfl
  have u13 : (Instr.mapUpdate 24 (.map (some w.heap.size)) (.int .i64 14) (.agg #[.int .i64 0, .int .i64 0, .int .i64 0])).run Try.prog (w.alloc (.map (ent 13) 13)) = .ok () (w.alloc (.map (ent 14) 14)) := upd w (ent 13) 13 14 _ rfl
  have u14 : (Instr.mapUpdate 24 (.map (some w.heap.size)) (.int .i64 15) (.agg #[.int .i64 7, .int .i64 0, .int .i64 0])).run Try.prog (w.alloc (.map (ent 14) 14)) = .ok () (w.alloc (.map (ent 15) 15)) := upd w (ent 14) 14 15 _ rfl
  have hmm := fun (W : World) => run_makeMap (P := Try.prog) 24 W
  go_enter Try.func3, Try.ntmps3
  go_wp2_with (fail)
  refine (Place_calls _ _ _ (by omega) (by omega)).mono ?_
  rintro e w' ⟨rfl, rfl⟩
  have m0 : 0 ≤ op % 15 := by omega
  have m1 : op % 15 < 15 := by omega
  revert m0 m1
  generalize op % 15 = o
  intro m0 m1
  go_wp2_with (fail)
  obtain ⟨O, hO⟩ : ∃ O, 1 + o = O := ⟨_, rfl⟩
  rw [hO]
  have O0 : 1 ≤ O := by omega
  have O1 : O ≤ 15 := by omega
  clear m0 m1 hO
  refine (Place_calls _ _ _ (by omega) (by omega)).mono ?_
  rintro e w' ⟨rfl, rfl⟩
  have k0 : 0 ≤ far % 100 := by omega
  have k1 : far % 100 < 100 := by omega
  revert k0 k1
  generalize far % 100 = k
  intro k0 k1
  have hlk := look w O (by omega) (by omega)
  go_wp2_with (fail)
  obtain ⟨K, hK⟩ : ∃ K, 1 + k = K := ⟨_, rfl⟩
  rw [hK]
  have K0 : 1 ≤ K := by omega
  have K1 : K ≤ 100 := by omega
  have hsh := shapes O K (by omega) (by omega) (by omega) (by omega)
  have hmr := mostOf_range O
  obtain ⟨a, ha⟩ : ∃ a, (mostOf O).1 = a := ⟨_, rfl⟩
  obtain ⟨b, hb⟩ : ∃ b, (mostOf O).2.1 = b := ⟨_, rfl⟩
  obtain ⟨c, hc⟩ : ∃ c, (mostOf O).2.2 = c := ⟨_, rfl⟩
  rw [ha, hb, hc] at hsh hmr
  rw [ha, hb, hc]
  obtain ⟨s1, s2, s3, s4, s5, s6, s7, s8⟩ := hsh
  have S1 := Aside0.mk s1
  have S2 := Aside0.mk s2
  have S3 := Aside0.mk s3
  have S4 := Aside0.mk s4
  have S5 := Aside0.mk s5
  have S6 := Aside0.mk s6
  have S7 := Aside0.mk s7
  have S8 := Aside0.mk s8
  have hk1 : wrap64 (15 + K) = 15 + K := wrap64_id _ (by omega)
  have hk2 : wrap64 (1 - K) = 1 - K := wrap64_id _ (by omega)
  have ha1 : wrap64 (a + K) = a + K := wrap64_id _ (by omega)
  have hb1 : wrap64 (b + K) = b + K := wrap64_id _ (by omega)
  have hc1 : wrap64 (c + K) = c + K := wrap64_id _ (by omega)
  have hn1 : wrap64 (-K) = -K := wrap64_id _ (by omega)
  clear s1 s2 s3 s4 s5 s6 s7 s8 ha hb hc hmr k0 k1 hK K0 K1 O0 O1 hlk u0 u1 u2 u3 u4 u5 u6 u7 u8 u9 u10 u11 u12 u13 u14 hmm
  have XB := Aside0.mk (show (((w.alloc (.map (ent 15) 15)).alloc (.cells #[.int .i64 a, .int .i64 b, .int .i64 c] 23)).alloc (.cells #[.int .i64 O, .int .i64 a, .int .i64 b, .int .i64 c] 26)).heap[w.heap.size + 1 + 1]? = some (.cells #[.int .i64 O, .int .i64 a, .int .i64 b, .int .i64 c] 26 (0, 0)) by
    have h := heap_alloc_new ((w.alloc (.map (ent 15) 15)).alloc (.cells #[.int .i64 a, .int .i64 b, .int .i64 c] 23)) (.cells #[.int .i64 O, .int .i64 a, .int .i64 b, .int .i64 c] 26)
    rw [World.size_alloc, World.size_alloc] at h
    exact h)
  have HB := Aside0.mk (show Below w.heap.size w (((w.alloc (.map (ent 15) 15)).alloc (.cells #[.int .i64 a, .int .i64 b, .int .i64 c] 23)).alloc (.cells #[.int .i64 O, .int .i64 a, .int .i64 b, .int .i64 c] 26)) from below_alloc (below_alloc (below_alloc (Below.refl _ _) _) _) _)
  revert XB HB
  generalize ((w.alloc (.map (ent 15) 15)).alloc (.cells #[.int .i64 a, .int .i64 b, .int .i64 c] 23)).alloc (.cells #[.int .i64 O, .int .i64 a, .int .i64 b, .int .i64 c] 26) = w1
  have hg : w.heap.size ≤ w.heap.size + 1 + 1 := by omega
  revert hg
  generalize w.heap.size + 1 + 1 = g
  intro hg
  intro XB HB
  refine (Shape_calls ⟨O, a, b, c⟩ _).mono ?_
  rintro e w2 ⟨rfl, hb2⟩
  rw [S1.out]
  have XB2 := Aside0.mk (blk_below XB.out hb2)
  have HB2 := Aside0.mk (below_step HB.out hb2)
  clear XB HB hb2
  go_wp2_with (fail)
  refine (Shape_calls ⟨O, 0, 0, 0⟩ _).mono ?_
  rintro e w3 ⟨rfl, hb3⟩
  rw [S2.out]
  have XB3 := Aside0.mk (blk_below XB2.out hb3)
  have HB3 := Aside0.mk (below_step HB2.out hb3)
  clear XB2 HB2 hb3
  go_wp2_with (fail)
  refine (Shape_calls ⟨15 + K, 0, 0, 0⟩ _).mono ?_
  rintro e w4 ⟨rfl, hb4⟩
  rw [S3.out]
  have XB4 := Aside0.mk (blk_below XB3.out hb4)
  have HB4 := Aside0.mk (below_step HB3.out hb4)
  clear XB3 HB3 hb4
  go_wp2_with (fail)
  refine (Shape_calls ⟨1 - K, 0, 0, 0⟩ _).mono ?_
  rintro e w5 ⟨rfl, hb5⟩
  rw [S4.out]
  have XB5 := Aside0.mk (blk_below XB4.out hb5)
  have HB5 := Aside0.mk (below_step HB4.out hb5)
  clear XB4 HB4 hb5
  go_wp2_with (fail)
  refine (Place_calls _ _ _ (by omega) (by omega)).mono ?_
  rintro e w' ⟨rfl, rfl⟩
  have j0 : which % 4 = 0 ∨ which % 4 = 1 ∨ which % 4 = 2 ∨ which % 4 = 3 := by omega
  revert j0
  generalize which % 4 = j
  intro j0
  obtain ⟨⟨x0, x1, x2, x3⟩, ⟨q0, q1, q2, q3⟩⟩ := row4 XB5.out
  rcases j0 with rfl | rfl | rfl | rfl
  · go_wp2_with (fail)
    refine (Shape_calls ⟨O, a + K, b, c⟩ _).mono ?_
    rintro e w6 ⟨rfl, hb6⟩
    rw [S5.out]
    have HB6 := Aside0.mk (below_step (HB5.out.setCell (p := ⟨g, 1, none⟩) hg (.int .i64 (a + K))) hb6)
    clear hb6
    go_wp2_with (fail)
    refine (awake_calls _).mono ?_
    rintro e w7 ⟨rfl, hb7⟩
    have HB7 := Aside0.mk (below_step HB6.out hb7)
    clear hb7
    go_wp2_with (fail)
    go_ret
    exact ⟨rfl, HB7.out⟩
  · go_wp2_with (fail)
    refine (Shape_calls ⟨O, a, b + K, c⟩ _).mono ?_
    rintro e w6 ⟨rfl, hb6⟩
    rw [S6.out]
    have HB6 := Aside0.mk (below_step (HB5.out.setCell (p := ⟨g, 2, none⟩) hg (.int .i64 (b + K))) hb6)
    clear hb6
    go_wp2_with (fail)
    refine (awake_calls _).mono ?_
    rintro e w7 ⟨rfl, hb7⟩
    have HB7 := Aside0.mk (below_step HB6.out hb7)
    clear hb7
    go_wp2_with (fail)
    go_ret
    exact ⟨rfl, HB7.out⟩
  · go_wp2_with (fail)
    refine (Shape_calls ⟨O, a, b, c + K⟩ _).mono ?_
    rintro e w6 ⟨rfl, hb6⟩
    rw [S7.out]
    have HB6 := Aside0.mk (below_step (HB5.out.setCell (p := ⟨g, 3, none⟩) hg (.int .i64 (c + K))) hb6)
    clear hb6
    go_wp2_with (fail)
    refine (awake_calls _).mono ?_
    rintro e w7 ⟨rfl, hb7⟩
    have HB7 := Aside0.mk (below_step HB6.out hb7)
    clear hb7
    go_wp2_with (fail)
    go_ret
    exact ⟨rfl, HB7.out⟩
  · go_wp2_with (fail)
    refine (Shape_calls ⟨O, -K, b, c⟩ _).mono ?_
    rintro e w6 ⟨rfl, hb6⟩
    rw [S8.out]
    have HB6 := Aside0.mk (below_step (HB5.out.setCell (p := ⟨g, 1, none⟩) hg (.int .i64 (-K))) hb6)
    clear hb6
    go_wp2_with (fail)
    refine (awake_calls _).mono ?_
    rintro e w7 ⟨rfl, hb7⟩
    have HB7 := Aside0.mk (below_step HB6.out hb7)
    clear hb7
    go_wp2_with (fail)
    go_ret
    exact ⟨rfl, HB7.out⟩
end Go.Proofs.Ytmofaahhnokohaa.CodeShapes
