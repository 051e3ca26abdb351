/- Walks: sameness of picks, the workers of picks, the bound, the document's example. -/
import Derived.Test.YtgmkmdlcifhlaaaFair5
namespace Go.Proofs.Ytgmkmdlcifhlaaa.Fair
open Go.RowKit Go.Proofs.YtgmkmdlcifhlaaaW.PrintWords Go.Proofs.YtgmkmdlcifhlaaaW.PrintLast Go.Proofs.YtgmkmdlcifhlaaaW.PrintMore PFairAll Go.Proofs.YtgmkmdlcifhlaaaW.Canon
attribute [local go_sem] max2_mx min2_mn max_two min_two max_three min_three max_four min_four

theorem SamePicks_calls (A B : Option Addr) (c d : Nat) (xs : List S34) (w : World) (hx : Kd.C k34 w A xs.length xs) (hy : Kd.C k34 w B xs.length xs) :
    Calls Try.prog 12 #[.slice A xs.length c, .slice B xs.length d] w fun e w' => e = .returned (.bool true) ∧ Drawn0 w w' := by
  have HX := Aside0.mk hx
  have HY := Aside0.mk hy
  have hmx := hx.2.1
  clear hx hy
  go_enter Try.func12, Try.ntmps12
  go_wp2
  go_loopw [5] (fun v w' => ∃ i : Nat, v = .int .i64 i ∧ i ≤ xs.length ∧ Drawn0 w w') (fun v _ => xs.length - (intOf v).toNat)
  case atStart => exact ⟨0, rfl, by omega, Drawn0.refl _⟩
  case round =>
    obtain ⟨i, rfl, hi, ⟨m1, rfl⟩⟩ := hrel
    by_cases hlt : i < xs.length
    · obtain ⟨ad, rfl, hx0, hx1⟩ := at_T34 HX.out (i : Int) (by omega) (by omega)
      obtain ⟨bd, rfl, hy0, hy1⟩ := at_T34 HY.out (i : Int) (by omega) (by omega)
      simp only [Int.toNat_natCast] at hx0 hx1 hy0 hy1
      go_wp2
      repeat (go_quiet (fail); try go_wp2)
      go_roundw
      case rel => exact ⟨i + 1, by go_num, by omega, by repeat (first | exact Drawn0.refl _ | apply Drawn0.step)⟩
      case measure => simp [intOf]; omega
    · go_wp2
      go_ret
      exact ⟨rfl, by repeat (first | exact Drawn0.refl _ | apply Drawn0.step)⟩

theorem works_calls (A : Option Addr) (c : Nat) (xs : List S34) (w : World) (hx : Kd.C k34 w A xs.length xs) (hl : xs.length ≤ 1048576) :
    Calls Try.prog 16 #[.slice A xs.length c] w fun e w' => ∃ v, e = .returned v ∧ Kd.R (Kd.int .i64) 3 w' w.heap.size (fun _ => True) v (xs.map (·.f0)) ∧ Below w.heap.size w w' := by
  have HX := Aside0.mk hx
  clear hx
  go_enter Try.func16, Try.ntmps16
  go_wp2
  go_loopw [3, 4] (fun v u w' => ∃ i : Nat, u = .int .i64 i ∧ i ≤ xs.length ∧ Aside0 (Kd.R (Kd.int .i64) 3 w' w.heap.size (fun _ => True) v ((xs.take i).map (·.f0))) ∧ Aside0 (Below w.heap.size w w')) (fun _ u _ => xs.length - (intOf u).toNat)
  case atStart => exact ⟨0, rfl, by omega, ⟨Kd.R_nil _ _ _ _ _⟩, ⟨Below.refl _ _⟩⟩
  case round =>
    obtain ⟨i, rfl, hi, HO, HB⟩ := hrel
    by_cases hlt : i < xs.length
    · obtain ⟨ad, rfl, hx0, hx1⟩ := at_T34 HX.out (i : Int) (by omega) (by omega)
      replace hx0 := (HB.out.cell (World.block_lt_of_cell? w _ hx0)).trans hx0
      simp only [Int.toNat_natCast] at hx0
      clear hx1
      have hlen : ((xs.take i).map (·.f0)).length = i := by simp; omega
      obtain ⟨p, hp⟩ : ∃ p, (xs.take i).map (·.f0) = p := ⟨_, rfl⟩
      rw [hp] at HO hlen
      have HL := Aside0.mk hlen
      have HP := Aside0.mk hp
      clear hlen hp
      go_wp2_with (at_builtin; refine Kd.R_append (Kd.int .i64) (w0 := w) w.heap.size rfl (.tmp 11) (.tmp 17) 22 3 (.int .i64 0) 8 rfl Try.underlying22 info3 rfl (by decide) (by omega) _ p (rd_T34 xs i).f0 _ (fun _ => True) (fun _ => False) rfl rfl rfl (fun _ hk => hk.elim) (fun _ _ => trivial) HO.out HB.out (below_size HB.out) (by rw [HL.out]; omega) ?_; intro v1 w1 ho hb _ _)
      have HO1 := Aside0.mk ho
      have HB1 := Aside0.mk hb
      clear ho hb HO HB
      go_roundw
      case rel =>
        refine ⟨i + 1, by go_num, by omega, ⟨?_⟩, HB1⟩
        have h1 := HO1.out
        rw [← HP.out] at h1
        rw [List.take_succ_eq_append_getElem hlt, List.map_append]
        have h2 : rd_T34 xs i = xs[i] := by simp [rd_T34, List.getD_eq_getElem?_getD, List.getElem?_eq_getElem hlt]
        rw [h2] at h1
        exact h1
      case measure => simp [intOf]; omega
    · obtain rfl : i = xs.length := by omega
      go_wp2
      go_ret
      exact ⟨_, rfl, by have := HO.out; rwa [List.take_length] at this, HB.out⟩

/-- The bound of the document. -/
def boundP (work steps forks window : Int) : Int := mn (mx 0 (mn window 10000) * (1000 + 400 * work) * (steps + 10 * forks + 10)) 1099511627776

theorem big_quo {n X M : Int} (hX : 0 < X) (h : M / X < n) : M < n * X := by
  have h1 := Int.lt_ediv_add_one_mul_self M hX
  have h2 : (M / X + 1) * X ≤ n * X := Int.mul_le_mul_of_nonneg_right (by omega) (by omega)
  omega
theorem small_quo {n X M : Int} (hX : 0 < X) (h : ¬ M / X < n) : n * X ≤ M := by
  have h1 : n * X ≤ M / X * X := Int.mul_le_mul_of_nonneg_right (by omega) (by omega)
  have h2 := Int.ediv_mul_le M (show X ≠ 0 by omega)
  omega
theorem Bound_calls (work wd th : Int) (ep fr ov : Bool) (eh ev : Int) (l1 l2 l3 : Value) (steps forks window : Int) (w : World) (h1 : 1 ≤ work) (h2 : work ≤ 64) (h3 : 0 ≤ steps) (h4 : steps ≤ 20001) (h5 : 0 ≤ forks) (h6 : forks ≤ 20001) :
    Calls Try.prog 17 #[.agg #[.int .i64 work, .bool ep, .int .i64 wd, .int .i64 th, .bool fr], .agg #[.int .i64 eh, .int .i64 ev, l1, l2, l3, .int .i64 steps, .int .i64 forks, .bool ov], .int .i64 window] w fun e w' => e = .returned (.int .i64 (boundP work steps forks window)) ∧ Below w.heap.size w w' := by
  obtain ⟨n, hn⟩ : ∃ r, mx 0 (mn window 10000) = r := ⟨_, rfl⟩
  have hn0 : 0 ≤ n ∧ n ≤ 10000 := by unfold mx mn at hn; split at hn <;> split at hn <;> omega
  obtain ⟨X, hX⟩ : ∃ X, 1000 + 400 * work = X := ⟨_, rfl⟩
  obtain ⟨Y, hY⟩ : ∃ Y, steps + 10 * forks + 10 = Y := ⟨_, rfl⟩
  have hF : boundP work steps forks window = mn (n * X * Y) 1099511627776 := by rw [boundP, hn, hX, hY]
  have HF := Aside0.mk hF
  have HN := Aside0.mk hn
  clear hn hF
  obtain ⟨hn0, hn1⟩ := hn0
  have hX1 : 1 ≤ X := by omega
  have hX2 : X ≤ 26600 := by omega
  have hY1 : 10 ≤ Y := by omega
  have hY2 : Y ≤ 220031 := by omega
  have hp0 : 0 ≤ n * X := Int.mul_nonneg hn0 (by omega)
  have hp1 : n * X ≤ 266000000 := by
    have := Int.mul_le_mul hn1 hX2 (by omega) (by omega)
    omega
  have i0 : ∀ w, (Instr.index 49 (.agg #[.int .i64 X, .int .i64 Y]) (.int .i64 0)).run Try.prog w = .ok (.int .i64 X) w := fun _ => by kernel_rfl
  have i1 : ∀ w, (Instr.index 49 (.agg #[.int .i64 X, .int .i64 Y]) (.int .i64 1)).run Try.prog w = .ok (.int .i64 Y) w := fun _ => by kernel_rfl
  have dX : decide (0 < X) = true := decide_eq_true (by omega)
  have dY : decide (0 < Y) = true := decide_eq_true (by omega)
  have eX : (X == 0) = false := beq_eq_false_iff_ne.mpr (by omega)
  have eY : (Y == 0) = false := beq_eq_false_iff_ne.mpr (by omega)
  have qX : 0 ≤ 1099511627776 / X := Int.ediv_nonneg (by omega) (by omega)
  have qX2 : 1099511627776 / X ≤ 1099511627776 := Int.ediv_le_self _ (by omega)
  have qY : 0 ≤ 1099511627776 / Y := Int.ediv_nonneg (by omega) (by omega)
  have qY2 : 1099511627776 / Y ≤ 1099511627776 := Int.ediv_le_self _ (by omega)
  have gX : decide (1099511627776 / X < n) = false := decide_eq_false (fun h => by have := big_quo (by omega) h; omega)
  go_enter Try.func17, Try.ntmps17
  go_wp2_with (go_at_call 19; refine (cut_calls _ _ _ _ _ HN).mono ?_; rintro e w' ⟨rfl, rfl⟩)
  go_loop [7, 24] (fun a b => (a = .int .i64 n ∧ b = .int .i64 0) ∨ (a = .int .i64 (n * X) ∧ b = .int .i64 1) ∨ (a = .int .i64 (n * X * Y) ∧ b = .int .i64 2 ∧ Aside0 (n * X * Y ≤ 1099511627776))) (fun _ b => 2 - (intOf b).toNat)
  case atStart => exact .inl ⟨rfl, rfl⟩
  case round =>
    rcases hrel with ⟨rfl, rfl⟩ | ⟨rfl, rfl⟩ | ⟨rfl, rfl, HP⟩
    · go_wp2
      go_round
      case rel => exact .inr (.inl ⟨rfl, rfl⟩)
      case measure => simp [intOf]
    · by_cases hg : 1099511627776 / Y < n * X
      · have gY : decide (1099511627776 / Y < n * X) = true := decide_eq_true hg
        have HG := Aside0.mk (big_quo (by omega) hg)
        clear hg gX
        go_wp2
        go_ret
        refine ⟨ret_int ?_, ?_⟩
        · rw [HF.out, mn, if_pos HG.out]
        · exact ((Below.refl _ _).alloc (Nat.le_refl _) _).alloc (by simp) _
      · have gY : decide (1099511627776 / Y < n * X) = false := decide_eq_false hg
        have hle := small_quo (by omega) hg
        have hge : 0 ≤ n * X * Y := Int.mul_nonneg hp0 (by omega)
        have HG := Aside0.mk hle
        clear hg gX
        go_wp2
        go_round
        case rel => exact .inr (.inr ⟨rfl, rfl, HG⟩)
        case measure => simp [intOf]
    · have hge : 0 ≤ n * X * Y := Int.mul_nonneg hp0 (by omega)
      go_wp2
      go_ret
      refine ⟨ret_int ?_, ((Below.refl _ _).alloc (Nat.le_refl _) _).alloc (by simp) _⟩
      rw [HF.out]
end Go.Proofs.Ytgmkmdlcifhlaaa.Fair
