/- Walk: the law FairDraws. -/
import Derived.Test.YtgmkmdlcifhlaaaFair7
namespace Go.Proofs.Ytgmkmdlcifhlaaa.Fair
open Go.RowKit Go.Proofs.YtgmkmdlcifhlaaaW.PrintWords Go.Proofs.YtgmkmdlcifhlaaaW.PrintLast Go.Proofs.YtgmkmdlcifhlaaaW.PrintMore PFairAll Go.Proofs.YtgmkmdlcifhlaaaW.Canon
attribute [local go_sem] max2_mx min2_mn max_two min_two max_three min_three max_four min_four

theorem leanL_form (u n k : Int) (ds : List Int) (u1 : 1 ≤ u) (u2 : u ≤ 64) (n1 : 0 ≤ n) (n2 : n ≤ 1048576) (k1 : 1 ≤ k) (k2 : k ≤ 100) : leanL u n k ds = (List.range n.toNat).map (pk u k ds) := by
  have e1 : mx 1 (mn u 64) = u := by unfold mx mn; split <;> split <;> omega
  have e2 : mx 0 (mn n 1048576) = n := by unfold mx mn; split <;> split <;> omega
  have e3 : mx 1 (mn k 100) = k := by unfold mx mn; split <;> split <;> omega
  rw [leanL, e1, e2, e3]
theorem rd_T34_range (f : Nat → S34) (n i : Nat) (h : i < n) : rd_T34 ((List.range n).map f) i = f i := by
  simp [rd_T34, List.getD_eq_getElem?_getD, h]

theorem SamePicks_n (A B : Option Addr) (c d n : Nat) (xs : List S34) (hn : xs.length = n) (w : World) (hx : Kd.C k34 w A n xs) (hy : Kd.C k34 w B n xs) :
    Calls Try.prog 12 #[.slice A n c, .slice B n d] w fun e w' => e = .returned (.bool true) ∧ Drawn0 w w' := by
  subst hn
  exact SamePicks_calls A B c d xs w hx hy

set_option maxHeartbeats 4000000 in
theorem FairDraws_calls (a0 a1 a2 a3 : Int) (B : Option Addr) (d : Nat) (l4 : List Int) (w : World) (h4 : Kd.C (Kd.int .i64) w B l4.length l4) (hd : l4.length ≤ d) (hm4 : l4.length ≤ 9223372036854775807) :
    Calls Try.prog 5 #[.int .i64 a0, .int .i64 a1, .int .i64 a2, .int .i64 a3, .slice B l4.length d] w fun e w' => e = .returned (.bool true) ∧ Below w.heap.size w w' := by
  have HR4 := Aside0.mk h4
  have HD := Aside0.mk hd
  clear h4 hd
  by_cases g4 : 50 < l4.length
  · have d4 : decide (50 < l4.length) = true := decide_eq_true g4
    go_enter Try.func5, Try.ntmps5
    go_wp2_with (go_at_call 8; refine (awake_calls _).mono ?_; rintro e w' ⟨rfl, hb⟩; have HB := Aside0.mk hb; clear hb)
    go_ret
    exact ⟨rfl, HB.out⟩
  · have d4 : decide (50 < l4.length) = false := decide_eq_false g4
    obtain ⟨u, hu⟩ : ∃ n, 1 + a0 % 64 = n := ⟨_, rfl⟩
    obtain ⟨n', hn⟩ : ∃ n, a1 % 200 = n := ⟨_, rfl⟩
    obtain ⟨m', hm⟩ : ∃ n, a2 % 50 = n := ⟨_, rfl⟩
    obtain ⟨k, hk⟩ : ∃ n, 1 + a3 % 9 = n := ⟨_, rfl⟩
    have u1 : 1 ≤ u := by omega
    have u2 : u ≤ 64 := by omega
    have k1 : 1 ≤ k := by omega
    have k2 : k ≤ 9 := by omega
    obtain ⟨n, rfl⟩ := Int.eq_ofNat_of_zero_le (show 0 ≤ n' by omega)
    obtain ⟨m, rfl⟩ := Int.eq_ofNat_of_zero_le (show 0 ≤ m' by omega)
    have n2 : n < 200 := by omega
    have m2 : m < 50 := by omega
    have hp := leanL_form u n k l4 u1 u2 (by omega) (by omega) k1 (by omega)
    have hq := leanL_form u ((n : Int) + (m : Int)) k l4 u1 u2 (by omega) (by omega) k1 (by omega)
    rw [show ((n : Int)).toNat = n by omega] at hp
    rw [show ((n : Int) + (m : Int)).toNat = n + m by omega] at hq
    have hqt : ((List.range (n + m)).map (pk u k l4)).take n = (List.range n).map (pk u k l4) := by
      rw [← List.map_take, List.take_range, Nat.min_eq_left (by omega)]
    have HP := Aside0.mk hp
    have HQ := Aside0.mk hq
    have HT := Aside0.mk hqt
    clear hp hq hqt
    go_enter Try.func5, Try.ntmps5
    go_wp2_with (go_at_call 9; refine (Place_calls _ _ _ (by omega) (by omega)).mono ?_; rintro e w' ⟨rfl, rfl⟩)
    refine (Lean_calls _ _ _ _ _ _ _ HR4.out HD.out).mono ?_
    rintro e w1 ⟨v, rfl, ho, hb⟩
    rw [HP.out] at ho
    obtain ⟨A1, c1, rfl⟩ := Kd.R_slice ho
    rw [List.length_map, List.length_range]
    have HB1 := Aside0.mk hb
    have HO1 := Aside0.mk ho
    clear hb ho
    go_wp2_with (go_at_call 9; refine (Place_calls _ _ _ (by omega) (by omega)).mono ?_; rintro e w' ⟨rfl, rfl⟩)
    refine (Lean_calls _ _ _ _ _ _ _ (Kd.C_below HR4.out HB1.out) HD.out).mono ?_
    rintro e w2 ⟨v, rfl, ho, hb⟩
    rw [HQ.out] at ho
    obtain ⟨A2, c2, rfl⟩ := Kd.R_slice ho
    rw [List.length_map, List.length_range]
    have hc2 := (Kd.R_reads' ho).2.1
    rw [List.length_map, List.length_range] at hc2
    have HB2 := Aside0.mk (below_step HB1.out hb)
    have HO2 := Aside0.mk ho
    have HO1' := Aside0.mk (Kd.R_below HO1.out hb)
    clear hb ho HB1 HO1
    go_wp2_with (fail)
    have hs1 : Kd.C k34 w2 A1 n ((List.range n).map (pk u k l4)) := by
      have := (Kd.R_reads' HO1'.out).2.2
      rwa [List.length_map, List.length_range] at this
    have hs2 : Kd.C k34 w2 A2 n ((List.range n).map (pk u k l4)) := by
      have := Kd.C_take (m := n) ((Kd.R_reads' HO2.out).2.2) (by rw [List.length_map, List.length_range]; omega)
      rw [HT.out] at this
      rwa [List.length_map, List.length_range] at this
    refine (SamePicks_n _ _ _ _ n _ (by simp) _ hs1 hs2).mono ?_
    have HS := Aside0.mk hs1
    clear hs1 hs2 HO1' HO2
    rintro e w3 ⟨rfl, hb⟩
    have HB3 := Aside0.mk (below_step HB2.out hb.below)
    have HS3 := Aside0.mk (Kd.C_below HS.out hb.below)
    clear hb HS HB2
    go_wp2_with (fail)
    go_loopw [16] (fun v w' => ∃ i : Nat, v = .int .i64 i ∧ i ≤ n ∧ Drawn0 w3 w') (fun v _ => n - (intOf v).toNat)
    case atStart => exact ⟨0, rfl, by omega, Drawn0.refl _⟩
    case round =>
      obtain ⟨i, rfl, hi, ⟨m1, rfl⟩⟩ := hrel
      by_cases hlt : i < n
      · obtain ⟨ad, hA, hx0, hx1⟩ := at_T34 HS3.out (i : Int) (by omega) (by omega)
        subst hA
        rw [rd_T34_range _ _ _ hlt] at hx0 hx1
        simp only [Int.toNat_natCast, pk] at hx0 hx1
        obtain ⟨dr, hdr⟩ : ∃ x, drawAt l4 i = x := ⟨_, rfl⟩
        rw [hdr] at hx1
        have hq0 : 0 ≤ (i : Int) / k := Int.ediv_nonneg (by omega) (by omega)
        have hq1 : (i : Int) / k ≤ 1048576 := Int.le_trans (Int.ediv_le_self _ (by omega)) (by omega)
        have hK1 : (k == 0) = false := beq_eq_false_iff_ne.mpr (by omega)
        have hU1 : (u == 0) = false := beq_eq_false_iff_ne.mpr (by omega)
        have hK2 : ¬ k = 0 := by omega
        have hU2 : ¬ u = 0 := by omega
        have hwm : ((i : Int) / k).tmod u = (i : Int) / k % u := Int.tmod_eq_emod_of_nonneg hq0
        have hwr : IntKind.i64.wrap ((i : Int) / k) = (i : Int) / k := IntWalk.i64_in _ (by omega)
        have hwt : (i : Int).tdiv k = (i : Int) / k := Int.tdiv_eq_ediv_of_nonneg (by omega)
        by_cases hd0 : 0 < l4.length
        · have hd1 : decide (0 < l4.length) = true := decide_eq_true hd0
          have hl0 : (0 : Int) < l4.length := by omega
          have hr0 : 0 ≤ Int.tmod i l4.length := Int.tmod_nonneg _ (by omega)
          have hr1 : Int.tmod i l4.length < l4.length := Int.tmod_lt_of_pos _ hl0
          obtain ⟨r, hr⟩ : ∃ r, Int.tmod i l4.length = r := ⟨_, rfl⟩
          rw [hr] at hr0 hr1
          obtain ⟨bd, hB, hxd⟩ := Kd.at_int HR4.out r hr0 hr1
          subst hB
          replace hxd := (HB3.out.cell (World.block_lt_of_cell? w _ hxd)).trans hxd
          have hmn : mn (mx (rd l4 r) 0) 1048576 = dr := by rw [← hdr, drawAt, if_neg (by omega), hr, mn_mx _ _ _ (by decide)]
          clear hl0 hdr
          go_wp2
          repeat (go_quiet (fail); try go_wp2)
          go_roundw
          case rel => exact ⟨i + 1, by go_num, by omega, by repeat (first | exact Drawn0.refl _ | apply Drawn0.step)⟩
          case measure => simp [intOf]; omega
        · have hd1 : decide (0 < l4.length) = false := decide_eq_false hd0
          have hz : dr = 0 := by rw [← hdr, drawAt, if_pos (by omega)]
          subst hz
          clear hdr
          go_wp2
          repeat (go_quiet (fail); try go_wp2)
          go_roundw
          case rel => exact ⟨i + 1, by go_num, by omega, by repeat (first | exact Drawn0.refl _ | apply Drawn0.step)⟩
          case measure => simp [intOf]; omega
      · go_wp2_with (fail)
        refine (Lean_calls 0 3 0 none 0 [] _ (Kd.C_nil _ _) (by decide)).mono ?_
        rintro e w4 ⟨v, rfl, ho, hb⟩
        have HB4 := Aside0.mk (below_step (pw_below_drewN HB3.out m1) hb)
        obtain ⟨A4, c4, rfl⟩ := Kd.R_slice ho
        rw [leanL_len]
        clear hb ho
        go_wp2_with (fail)
        refine (awake_calls _).mono ?_
        rintro e w9 ⟨rfl, hb⟩
        have HB9 := Aside0.mk (below_step HB4.out hb)
        clear hb
        go_wp2
        go_ret
        exact ⟨rfl, HB9.out⟩
end Go.Proofs.Ytgmkmdlcifhlaaa.Fair
