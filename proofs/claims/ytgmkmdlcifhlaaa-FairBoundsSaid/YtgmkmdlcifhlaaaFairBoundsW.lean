/- Walk: the law FairBounds. -/
import Derived.Test.YtgmkmdlcifhlaaaFair7
namespace Go.Proofs.Ytgmkmdlcifhlaaa.Fair
open Go.RowKit Go.Proofs.YtgmkmdlcifhlaaaW.PrintWords Go.Proofs.YtgmkmdlcifhlaaaW.PrintLast Go.Proofs.YtgmkmdlcifhlaaaW.PrintMore PFairAll Go.Proofs.YtgmkmdlcifhlaaaW.Canon
attribute [local go_sem] max2_mx min2_mn max_two min_two max_three min_three max_four min_four

theorem boundP_mn (work steps forks k : Int) (h0 : 0 ≤ k) (h1 : k ≤ 10000) : boundP work steps forks k = mn (k * (1000 + 400 * work) * (steps + 10 * forks + 10)) 1099511627776 := by
  have : mx 0 (mn k 10000) = k := by unfold mx mn; split <;> split <;> omega
  rw [boundP, this]
theorem boundP_neg (work steps forks : Int) : boundP work steps forks (-5) = 0 := by
  have : mx 0 (mn (-5) 10000) = 0 := by decide
  rw [boundP, this]
  simp [mn]
theorem boundP_big (work steps forks k : Int) (h0 : 0 ≤ k) : boundP work steps forks (10000 + k) = boundP work steps forks 10000 := by
  have h1 : mx 0 (mn (10000 + k) 10000) = 10000 := by unfold mx mn; split <;> split <;> omega
  have h2 : mx 0 (mn 10000 10000) = 10000 := by decide
  rw [boundP, boundP, h1, h2]

theorem keep_two {w w' : World} {g h : Nat} {o p : Obj} (hb : Below w.heap.size w w') (hs : w.heap[g]? = some o ∧ w.heap[h]? = some p) : w'.heap[g]? = some o ∧ w'.heap[h]? = some p :=
  ⟨(hb.block _ (blk_lt hs.1)).trans hs.1, (hb.block _ (blk_lt hs.2)).trans hs.2⟩

set_option maxHeartbeats 8000000 in
theorem FairBounds_calls (a0 a1 a2 a3 : Int) (w : World) :
    Calls Try.prog 7 #[.int .i64 a0, .int .i64 a1, .int .i64 a2, .int .i64 a3] w fun e w' => e = .returned (.bool true) ∧ Below w.heap.size w w' := by
  obtain ⟨u, hu⟩ : ∃ n, 1 + a0 % 64 = n := ⟨_, rfl⟩
  obtain ⟨s, hs⟩ : ∃ n, a1 % 20001 = n := ⟨_, rfl⟩
  obtain ⟨f, hf⟩ : ∃ n, a2 % 20001 = n := ⟨_, rfl⟩
  obtain ⟨k, hk⟩ : ∃ n, a3 % 10001 = n := ⟨_, rfl⟩
  have u1 : 1 ≤ u := by omega
  have u2 : u ≤ 64 := by omega
  have s1 : 0 ≤ s := by omega
  have s2 : s ≤ 20000 := by omega
  have f1 : 0 ≤ f := by omega
  have f2 : f ≤ 20000 := by omega
  have k1 : 0 ≤ k := by omega
  have k2 : k ≤ 10000 := by omega
  obtain ⟨X, hX⟩ : ∃ X, 1000 + 400 * u = X := ⟨_, rfl⟩
  obtain ⟨Y, hY⟩ : ∃ Y, s + 10 * f + 10 = Y := ⟨_, rfl⟩
  have hX1 : 1 ≤ X := by omega
  have hX2 : X ≤ 26600 := by omega
  have hY1 : 10 ≤ Y := by omega
  have hY2 : Y ≤ 220010 := by omega
  have hp0 : 0 ≤ k * X := Int.mul_nonneg k1 (by omega)
  have hp1 : k * X ≤ 266000000 := by
    have := Int.mul_le_mul k2 hX2 (by omega) (by omega)
    omega
  have hq0 : 0 ≤ k * X * Y := Int.mul_nonneg hp0 (by omega)
  have hq1 : k * X * Y ≤ 58522660000000 := by
    have := Int.mul_le_mul hp1 hY2 (by omega) (by omega)
    omega
  have hb1 := boundP_mn u s f k k1 k2
  rw [hX, hY] at hb1
  have hb2 := boundP_neg u s f
  have hb3 := boundP_big u s f k k1
  obtain ⟨m, hm⟩ : ∃ m, boundP u s f 10000 = m := ⟨_, rfl⟩
  rw [hm] at hb3
  have B1 := Aside0.mk hb1
  have B2 := Aside0.mk hb2
  have B3 := Aside0.mk hb3
  have B4 := Aside0.mk hm
  clear hb1 hb2 hb3 hm
  go_enter Try.func7, Try.ntmps7
  go_wp2_with (go_at_call 9; refine (Place_calls _ _ _ (by omega) (by omega)).mono ?_; rintro e w' ⟨rfl, rfl⟩)
  refine (Bound_calls u 1000 1 false false false 0 0 _ _ _ s f k _ u1 u2 s1 (by omega) f1 (by omega)).mono ?_
  rintro e w1 ⟨rfl, hb⟩
  rw [B1.out]
  have h1 : w1.heap[w.heap.size]? = some (.cells #[.int .i64 u, .bool false, .int .i64 1000, .int .i64 1, .bool false] 38 (0, 0)) := (hb.block w.heap.size (by simp; omega)).trans ((Below.heap_alloc _ _ _ (by simp)).trans (heap_alloc_new w _))
  have h2 : w1.heap[w.heap.size + 1]? = some (.cells #[.int .i64 0, .int .i64 0, .slice none 0 0, .slice none 0 0, .slice none 0 0, .int .i64 s, .int .i64 f, .bool false] 44 (0, 0)) := (hb.block (w.heap.size + 1) (by simp)).trans (by have h9 := heap_alloc_new (w.alloc (.cells #[.int .i64 u, .bool false, .int .i64 1000, .int .i64 1, .bool false] 38)) (.cells #[.int .i64 0, .int .i64 0, .slice none 0 0, .slice none 0 0, .slice none 0 0, .int .i64 s, .int .i64 f, .bool false] 44); simpa using h9)
  have HB1 := Aside0.mk (below_step (((Below.refl _ w).alloc (Nat.le_refl _) _).alloc (by simp) _) hb)
  clear hb
  obtain ⟨g, hg⟩ : ∃ g, g = w.heap.size := ⟨_, rfl⟩
  have hgw : w.heap.size ≤ g := by omega
  rw [← hg] at h1 h2
  rw [← hg]
  have HG := Aside0.mk hg
  clear hg
  have hf2 : w1.frozen? ⟨g + 1, 7, none⟩ = false := blk_frozen h2 7
  have hc2 : w1.cell? ⟨g + 1, 7, none⟩ = some (.bool false) := cell_of_row w1 (g + 1) 7 _ 44 (0, 0) h2
  have K1 := Aside0.mk h1
  have K2 := Aside0.mk (blk_put h2 7 (.bool true) (cs' := #[.int .i64 0, .int .i64 0, .slice none 0 0, .slice none 0 0, .slice none 0 0, .int .i64 s, .int .i64 f, .bool true]) rfl)
  clear h1 h2
  go_wp2_with (fail)
  have HB2 := Aside0.mk (below_set (j := 7) (v := .bool true) HB1.out (show w.heap.size ≤ g + 1 by omega))
  have K1' := Aside0.mk ((Below.heap_setCell w1 ⟨g + 1, 7, none⟩ (.bool true) g (by simp)).trans K1.out)
  clear K1 HB1 hf2 hc2
  revert K1' K2 HB2
  generalize w1.setCell ⟨g + 1, 7, none⟩ (.bool true) = w2
  intro K2 HB2 K1
  have hwk : wrap64 (10000 + k) = 10000 + k := by unfold wrap64; omega
  have hwk2 : IntKind.i64.wrap (10000 + k) = 10000 + k := IntWalk.i64_in _ (by omega)
  refine canon [(0,1),(1,1),(2,1),(3,1),(4,1),(5,2),(6,2),(7,0),(8,1),(9,1),(10,1),(13,1),(14,1),(11,2),(12,2),(16,2),(17,2),(15,0),(18,0),(19,1),(20,1),(21,1),(22,0),(23,1),(24,1)] [] (fun W => (W.heap[g]? = some (.cells #[.int .i64 u, .bool false, .int .i64 1000, .int .i64 1, .bool false] 38 (0, 0)) ∧ W.heap[g + 1]? = some (.cells #[.int .i64 0, .int .i64 0, .slice none 0 0, .slice none 0 0, .slice none 0 0, .int .i64 s, .int .i64 f, .bool true] 44 (0, 0)))) (by kernel_rfl) rfl rfl (by kernel_rfl) (by intro c d v a w h; cases d <;> exact h) ?_
  intro w3 hb3 _
  have S3 := Aside0.mk (And.intro ((hb3.block _ (blk_lt K1.out)).trans K1.out) ((hb3.block _ (blk_lt K2.out)).trans K2.out))
  have HB3 := Aside0.mk (below_step HB2.out hb3)
  clear hb3 HB2 K1 K2
  repeat (first | (refine c_pure rfl rfl (by rfl) (v := ?_) ?_ (a' := ?_) ?_ ?_; rotate_left; (focus (intro w'; go_simp; with_reducible rfl)); rotate_left; (focus ((try simp only [Act.put, List.setIfInBounds_toArray, List.set_cons_zero, List.set_cons_succ, i64_w, i32_w]); rfl))) | (refine c_off rfl rfl (by rfl) (a' := ?_) ?_ ?_; rotate_left; (focus ((try simp only [Act.put, List.setIfInBounds_toArray, List.set_cons_zero, List.set_cons_succ, i64_w, i32_w]); rfl))))
  (refine c_row rfl rfl (by rfl) S3.out 38 (.tmp 12) rfl g rfl 38 _ (0, 0) _ (fun w' hS' => hS'.1) Try.underlying38 rfl (by kernel_rfl) (a' := ?_) ?_ ?_; rotate_left; (focus ((try simp only [Act.put, List.setIfInBounds_toArray, List.set_cons_zero, List.set_cons_succ, i64_w, i32_w]); rfl)))
  (refine c_row rfl rfl (by rfl) S3.out 44 (.tmp 14) rfl (g + 1) rfl 44 _ (0, 0) _ (fun w' hS' => hS'.2) Try.underlying44 rfl (by kernel_rfl) (a' := ?_) ?_ ?_; rotate_left; (focus ((try simp only [Act.put, List.setIfInBounds_toArray, List.set_cons_zero, List.set_cons_succ, i64_w, i32_w]); rfl)))
  refine c_eff rfl (fun K hK => ?_)
  go_simp
  refine (Bound_calls u 1000 1 false false true 0 0 _ _ _ s f (-5) _ u1 u2 s1 (by omega) f1 (by omega)).mono ?_
  rintro e w4 ⟨rfl, hb⟩
  rw [B2.out]
  refine hK _ _ (fun h => keep_two hb h) ?_
  clear hK K
  have S4 := Aside0.mk (keep_two hb S3.out)
  have HB4 := Aside0.mk (below_step HB3.out hb)
  clear hb S3 HB3
  have S3 := S4
  have HB3 := HB4
  clear S4 HB4
  (refine c_norm (a' := ?_) ?_ ?_; rotate_left; (focus ((try simp only [Act.put, List.setIfInBounds_toArray, List.set_cons_zero, List.set_cons_succ, i64_w, i32_w]); rfl)))
  repeat (first | (refine c_pure rfl rfl (by rfl) (v := ?_) ?_ (a' := ?_) ?_ ?_; rotate_left; (focus (intro w'; go_simp; with_reducible rfl)); rotate_left; (focus ((try simp only [Act.put, List.setIfInBounds_toArray, List.set_cons_zero, List.set_cons_succ, i64_w, i32_w]); rfl))) | (refine c_off rfl rfl (by rfl) (a' := ?_) ?_ ?_; rotate_left; (focus ((try simp only [Act.put, List.setIfInBounds_toArray, List.set_cons_zero, List.set_cons_succ, i64_w, i32_w]); rfl))))
  (refine c_row rfl rfl (by rfl) S3.out 38 (.tmp 12) rfl g rfl 38 _ (0, 0) _ (fun w' hS' => hS'.1) Try.underlying38 rfl (by kernel_rfl) (a' := ?_) ?_ ?_; rotate_left; (focus ((try simp only [Act.put, List.setIfInBounds_toArray, List.set_cons_zero, List.set_cons_succ, i64_w, i32_w]); rfl)))
  (refine c_row rfl rfl (by rfl) S3.out 44 (.tmp 14) rfl (g + 1) rfl 44 _ (0, 0) _ (fun w' hS' => hS'.2) Try.underlying44 rfl (by kernel_rfl) (a' := ?_) ?_ ?_; rotate_left; (focus ((try simp only [Act.put, List.setIfInBounds_toArray, List.set_cons_zero, List.set_cons_succ, i64_w, i32_w]); rfl)))
  (refine c_row rfl rfl (by rfl) S3.out 38 (.tmp 12) rfl g rfl 38 _ (0, 0) _ (fun w' hS' => hS'.1) Try.underlying38 rfl (by kernel_rfl) (a' := ?_) ?_ ?_; rotate_left; (focus ((try simp only [Act.put, List.setIfInBounds_toArray, List.set_cons_zero, List.set_cons_succ, i64_w, i32_w]); rfl)))
  (refine c_row rfl rfl (by rfl) S3.out 44 (.tmp 14) rfl (g + 1) rfl 44 _ (0, 0) _ (fun w' hS' => hS'.2) Try.underlying44 rfl (by kernel_rfl) (a' := ?_) ?_ ?_; rotate_left; (focus ((try simp only [Act.put, List.setIfInBounds_toArray, List.set_cons_zero, List.set_cons_succ, i64_w, i32_w]); rfl)))
  refine c_eff rfl (fun K hK => ?_)
  go_simp
  refine (Bound_calls u 1000 1 false false true 0 0 _ _ _ s f (10000 + k) _ u1 u2 s1 (by omega) f1 (by omega)).mono ?_
  rintro e w5 ⟨rfl, hb⟩
  rw [B3.out]
  refine hK _ _ (fun h => keep_two hb h) ?_
  clear hK K
  have S4 := Aside0.mk (keep_two hb S3.out)
  have HB4 := Aside0.mk (below_step HB3.out hb)
  clear hb S3 HB3
  have S3 := S4
  have HB3 := HB4
  clear S4 HB4
  (refine c_norm (a' := ?_) ?_ ?_; rotate_left; (focus ((try simp only [Act.put, List.setIfInBounds_toArray, List.set_cons_zero, List.set_cons_succ, i64_w, i32_w]); rfl)))
  refine c_eff rfl (fun K hK => ?_)
  go_simp
  refine (Bound_calls u 1000 1 false false true 0 0 _ _ _ s f 10000 _ u1 u2 s1 (by omega) f1 (by omega)).mono ?_
  rintro e w6 ⟨rfl, hb⟩
  rw [B4.out]
  refine hK _ _ (fun h => keep_two hb h) ?_
  clear hK K
  have S4 := Aside0.mk (keep_two hb S3.out)
  have HB4 := Aside0.mk (below_step HB3.out hb)
  clear hb S3 HB3
  have S3 := S4
  have HB3 := HB4
  clear S4 HB4
  (refine c_norm (a' := ?_) ?_ ?_; rotate_left; (focus ((try simp only [Act.put, List.setIfInBounds_toArray, List.set_cons_zero, List.set_cons_succ, i64_w, i32_w]); rfl)))
  repeat (first | (refine c_pure rfl rfl (by rfl) (v := ?_) ?_ (a' := ?_) ?_ ?_; rotate_left; (focus (intro w'; go_simp; with_reducible rfl)); rotate_left; (focus ((try simp only [Act.put, List.setIfInBounds_toArray, List.set_cons_zero, List.set_cons_succ, i64_w, i32_w]); rfl))) | (refine c_off rfl rfl (by rfl) (a' := ?_) ?_ ?_; rotate_left; (focus ((try simp only [Act.put, List.setIfInBounds_toArray, List.set_cons_zero, List.set_cons_succ, i64_w, i32_w]); rfl))))
  refine c_eff rfl (fun K hK => ?_)
  go_simp
  refine (awake_calls _).mono ?_
  rintro e w7 ⟨rfl, hb⟩
  refine hK _ _ (fun h => keep_two hb h) ?_
  clear hK K
  have HB4 := Aside0.mk (below_step HB3.out hb)
  clear hb S3 HB3
  (refine c_norm (a' := ?_) ?_ ?_; rotate_left; (focus ((try simp only [Act.put, List.setIfInBounds_toArray, List.set_cons_zero, List.set_cons_succ, i64_w, i32_w]); rfl)))
  repeat (first | (refine c_pure rfl rfl (by rfl) (v := ?_) ?_ (a' := ?_) ?_ ?_; rotate_left; (focus (intro w'; go_simp; with_reducible rfl)); rotate_left; (focus ((try simp only [Act.put, List.setIfInBounds_toArray, List.set_cons_zero, List.set_cons_succ, i64_w, i32_w]); rfl))) | (refine c_off rfl rfl (by rfl) (a' := ?_) ?_ ?_; rotate_left; (focus ((try simp only [Act.put, List.setIfInBounds_toArray, List.set_cons_zero, List.set_cons_succ, i64_w, i32_w]); rfl))))
  refine c_done ?_
  go_wp2
  go_ret
  exact ⟨rfl, HB4.out⟩
end Go.Proofs.Ytgmkmdlcifhlaaa.Fair
