/- Walk: the reference of Lean. -/
import Derived.Test.YtgmkmdlcifhlaaaFair1
import Derived.Deep.RegionWith
import Derived.Test.YtgmkmdlcifhlaaaCanon
namespace Go.Proofs.Ytgmkmdlcifhlaaa.Fair
open Go.RowKit Go.Proofs.YtgmkmdlcifhlaaaW.PrintWords Go.Proofs.YtgmkmdlcifhlaaaW.PrintLast Go.Proofs.YtgmkmdlcifhlaaaW.PrintMore PFairAll Go.Proofs.YtgmkmdlcifhlaaaW.Canon
attribute [local go_sem] max2_mx min2_mn max_two min_two max_three min_three max_four min_four

theorem refLean_calls (work steps lean : Int) (A : Option Addr) (c : Nat) (ds : List Int) (w : World) (hr : Kd.C (Kd.int .i64) w A ds.length ds) :
    Calls Try.prog 14 #[.int .i64 work, .int .i64 steps, .int .i64 lean, .slice A ds.length c] w fun e w' => ∃ v, e = .returned v ∧ Kd.R k34 34 w' w.heap.size (fun _ => True) v (leanL work steps lean ds) ∧ Below w.heap.size w w' := by
  obtain ⟨W, hW⟩ : ∃ r, mn (mx work 1) 64 = r := ⟨_, rfl⟩
  obtain ⟨K0, hK⟩ : ∃ r, mn (mx lean 1) 100 = r := ⟨_, rfl⟩
  obtain ⟨n', hN⟩ : ∃ r, mn (mx steps 0) 1048576 = r := ⟨_, rfl⟩
  have hW0 : 1 ≤ W := by unfold mx mn at hW; split at hW <;> split at hW <;> omega
  have hK0 : 1 ≤ K0 := by unfold mx mn at hK; split at hK <;> split at hK <;> omega
  have hN0 : 0 ≤ n' ∧ n' ≤ 1048576 := by unfold mx mn at hN; split at hN <;> split at hN <;> omega
  obtain ⟨n, rfl⟩ := Int.eq_ofNat_of_zero_le hN0.1
  have hL : leanL work steps lean ds = (List.range n).map (pk W K0 ds) := by
    rw [leanL, ← mn_mx work 1 64 (by decide), ← mn_mx lean 1 100 (by decide), ← mn_mx steps 0 1048576 (by decide), hW, hK, hN]; rfl
  rw [hL]
  clear hL
  have hn : n ≤ 1048576 := by omega
  have HR := Aside0.mk hr
  clear hN0 hr
  go_enter Try.func14, Try.ntmps14
  go_wp2
  go_loopw [12, 13] (fun v v20 w' => ∃ i : Nat, v20 = .int .i64 i ∧ i ≤ n ∧ Aside0 (Kd.R k34 34 w' w.heap.size (fun _ => True) v ((List.range i).map (pk W K0 ds))) ∧ Aside0 (Below w.heap.size w w')) (fun _ i _ => n - (intOf i).toNat)
  case atStart => exact ⟨0, rfl, by omega, ⟨Kd.R_nil _ _ _ _ _⟩, ⟨Below.refl _ _⟩⟩
  case round =>
    clear hW hK hN
    obtain ⟨i, rfl, hi, HO, HB⟩ := hrel
    by_cases hlt : i < n
    · have hq0 : 0 ≤ (i : Int) / K0 := Int.ediv_nonneg (by omega) (by omega)
      have hq1 : (i : Int) / K0 ≤ 1048576 := Int.le_trans (Int.ediv_le_self _ (by omega)) (by omega)
      have hK1 : (K0 == 0) = false := beq_eq_false_iff_ne.mpr (by omega)
      have hW1 : (W == 0) = false := beq_eq_false_iff_ne.mpr (by omega)
      have hK2 : ¬ K0 = 0 := by omega
      have hW2 : ¬ W = 0 := by omega
      have hwm : ((i : Int) / K0).tmod W = (i : Int) / K0 % W := Int.tmod_eq_emod_of_nonneg hq0
      have hwr : IntKind.i64.wrap ((i : Int) / K0) = (i : Int) / K0 := IntWalk.i64_in _ (by omega)
      go_wp2
      refine canon [(0,1),(1,1),(2,1),(3,1),(4,1),(5,1),(6,1),(7,1),(8,0),(9,1),(10,0),(11,0),(12,1)] [] (fun _ => True) (by kernel_rfl) rfl rfl (by kernel_rfl) (by intro c d v a w h; cases d <;> exact h) ?_
      intro w1 hb1 _
      have HO1 := Aside0.mk (Kd.R_below HO.out hb1)
      have HB1 := Aside0.mk (below_step HB.out hb1)
      clear HO HB hb1
      repeat (first | (refine c_pure rfl rfl (by rfl) (v := ?_) ?_ (a' := ?_) ?_ ?_; rotate_left; (focus (intro w'; go_simp; with_reducible rfl)); rotate_left; (focus ((try simp only [Act.put, List.setIfInBounds_toArray, List.set_cons_zero, List.set_cons_succ, i64_w, i32_w]); rfl))) | (refine c_off rfl rfl (by rfl) (a' := ?_) ?_ ?_; rotate_left; (focus ((try simp only [Act.put, List.setIfInBounds_toArray, List.set_cons_zero, List.set_cons_succ, i64_w, i32_w]); rfl))))
      refine c_eff rfl (fun K hK => ?_)
      go_simp
      go_at_call 20
      refine (draw_calls _ _ _ i (by omega) _ (Kd.C_below HR.out HB1.out)).mono ?_
      rintro e w' ⟨rfl, rfl⟩
      refine hK _ _ (fun h => h) ?_
      clear hK K
      (refine c_norm (a' := ?_) ?_ ?_; rotate_left; (focus ((try simp only [Act.put, List.setIfInBounds_toArray, List.set_cons_zero, List.set_cons_succ, i64_w, i32_w]); rfl)))
      repeat (first | (refine c_pure rfl rfl (by rfl) (v := ?_) ?_ (a' := ?_) ?_ ?_; rotate_left; (focus (intro w'; go_simp; with_reducible rfl)); rotate_left; (focus ((try simp only [Act.put, List.setIfInBounds_toArray, List.set_cons_zero, List.set_cons_succ, i64_w, i32_w]); rfl))) | (refine c_off rfl rfl (by rfl) (a' := ?_) ?_ ?_; rotate_left; (focus ((try simp only [Act.put, List.setIfInBounds_toArray, List.set_cons_zero, List.set_cons_succ, i64_w, i32_w]); rfl))))
      refine c_eff rfl (fun K hK => ?_)
      go_simp
      refine hK _ _ (fun h => h) ?_
      clear hK K
      refine c_eff rfl (fun K hK => ?_)
      refine Kd.R_append_step k34 (w0 := w) w.heap.size (by rfl) (.tmp 28) (.tmp 38) 27 34 (.agg #[(.int .i64 0), (.int .i64 0)]) 16 rfl Try.underlying27 info34 rfl (by decide) (by omega) _ _ (pk W K0 ds i) [.int .i64 ((i : Int) / K0 % W), .int .i64 (drawAt ds i)] (fun _ => True) (fun _ => False) rfl rfl (k34_mkM _ _ _ (pk W K0 ds i)) (fun _ hk => hk.elim) (fun _ _ => trivial) HO1.out HB1.out (below_size HB1.out) (by simp; omega) ?_
      intro v1 w2 ho hb hg hat
      refine hK _ _ (fun h => h) ?_
      clear hK K hg hat
      (refine c_norm (a' := ?_) ?_ ?_; rotate_left; (focus ((try simp only [Act.put, List.setIfInBounds_toArray, List.set_cons_zero, List.set_cons_succ, i64_w, i32_w]); rfl)))
      repeat (first | (refine c_pure rfl rfl (by rfl) (v := ?_) ?_ (a' := ?_) ?_ ?_; rotate_left; (focus (intro w'; go_simp; with_reducible rfl)); rotate_left; (focus ((try simp only [Act.put, List.setIfInBounds_toArray, List.set_cons_zero, List.set_cons_succ, i64_w, i32_w]); rfl))) | (refine c_off rfl rfl (by rfl) (a' := ?_) ?_ ?_; rotate_left; (focus ((try simp only [Act.put, List.setIfInBounds_toArray, List.set_cons_zero, List.set_cons_succ, i64_w, i32_w]); rfl))))
      refine c_done ?_
      have HO2 := Aside0.mk ho
      have HB2 := Aside0.mk hb
      clear ho hb HO1 HB1
      go_wp2
      go_roundw
      case rel =>
        refine ⟨i + 1, by go_num, by omega, ⟨?_⟩, HB2⟩
        rw [List.range_succ, List.map_append]
        exact HO2.out
      case measure => simp [intOf]; omega
    · have hin : i = n := by omega
      go_wp2
      go_ret
      exact ⟨_, rfl, by rw [← hin]; exact HO.out, HB.out⟩
end Go.Proofs.Ytgmkmdlcifhlaaa.Fair
