/- Walk: the law FairParts. -/
import Derived.Test.YtgmkmdlcifhlaaaFairWindowsW
namespace Go.Proofs.Ytgmkmdlcifhlaaa.Fair
open Go.RowKit Go.Proofs.YtgmkmdlcifhlaaaW.PrintWords Go.Proofs.YtgmkmdlcifhlaaaW.PrintLast Go.Proofs.YtgmkmdlcifhlaaaW.PrintMore PFairAll Go.Proofs.YtgmkmdlcifhlaaaW.Canon
attribute [local go_sem] max2_mx min2_mn max_two min_two max_three min_three max_four min_four

/-- Numbers as workers. -/
def cut4 (u : Int) (l : List Int) : List Int := l.map (· % u)

theorem winP_one (l : List Int) (u : Int) (h : u = 1) : winP u (cut4 u l) = mn l.length 1 := by
  subst h
  have := alone_win (cut4 1 l) (by intro x hx; simp only [cut4, List.mem_map] at hx; obtain ⟨y, _, rfl⟩ := hx; omega)
  rw [this, cut4, List.length_map]
theorem cut4_append (u : Int) (a b : List Int) : cut4 u (a ++ b) = cut4 u a ++ cut4 u b := by simp [cut4]

theorem winP_bd (u : Int) (l : List Int) : 0 ≤ winP u l ∧ winP u l ≤ l.length := by
  rcases winP_is u l with ⟨h, _⟩ | ⟨_, n, h, h1, h2, _⟩ <;> rw [h] <;> omega
set_option maxHeartbeats 8000000 in
theorem FairParts_calls (a0 : Int) (A B : Option Addr) (c d : Nat) (l1 l2 : List Int) (w : World) (h1 : Kd.C (Kd.int .i64) w A l1.length l1) (h2 : Kd.C (Kd.int .i64) w B l2.length l2) (hm1 : l1.length ≤ 9223372036854775807) (hm2 : l2.length ≤ 9223372036854775807) :
    Calls Try.prog 6 #[.int .i64 a0, .slice A l1.length c, .slice B l2.length d] w fun e w' => e = .returned (.bool true) ∧ Below w.heap.size w w' := by
  have HR1 := Aside0.mk h1
  have HR2 := Aside0.mk h2
  clear h1 h2
  by_cases g1 : 40 < l1.length
  · have d1 : decide (40 < l1.length) = true := decide_eq_true g1
    go_enter Try.func6, Try.ntmps6
    go_wp2_with (go_at_call 8; refine (awake_calls _).mono ?_; rintro e w' ⟨rfl, hb⟩; have HB := Aside0.mk hb; clear hb)
    go_ret
    exact ⟨rfl, HB.out⟩
  · have d1 : decide (40 < l1.length) = false := decide_eq_false g1
    by_cases g2 : 40 < l2.length
    · have d2 : decide (40 < l2.length) = true := decide_eq_true g2
      go_enter Try.func6, Try.ntmps6
      go_wp2_with (go_at_call 8; refine (awake_calls _).mono ?_; rintro e w' ⟨rfl, hb⟩; have HB := Aside0.mk hb; clear hb)
      go_ret
      exact ⟨rfl, HB.out⟩
    · have d2 : decide (40 < l2.length) = false := decide_eq_false g2
      obtain ⟨u, hu⟩ : ∃ n, 1 + a0 % 4 = n := ⟨_, rfl⟩
      have u1 : 1 ≤ u := by omega
      have u2 : u ≤ 4 := by omega
      go_enter Try.func6, Try.ntmps6
      go_wp2_with (go_at_call 9; refine (Place_calls _ _ _ (by omega) (by omega)).mono ?_; rintro e w' ⟨rfl, rfl⟩)
      go_loopw [8, 10] (fun v j w' => ∃ i : Nat, j = .int .i64 i ∧ i ≤ l1.length ∧ Aside0 (Kd.R (Kd.int .i64) 3 w' w.heap.size (fun _ => True) v (cut4 u (l1.take i))) ∧ Aside0 (Below w.heap.size w w')) (fun _ j _ => l1.length - (intOf j).toNat)
      case atStart => exact ⟨0, rfl, by omega, ⟨Kd.R_nil _ _ _ _ _⟩, ⟨Below.refl _ _⟩⟩
      case round =>
        obtain ⟨i, rfl, hi, HO, HB⟩ := hrel
        by_cases hlt : i < l1.length
        · obtain ⟨ad, hA, hxd⟩ := Kd.at_int HR1.out (i : Int) (by omega) (by omega)
          subst hA
          replace hxd := (HB.out.cell (World.block_lt_of_cell? w _ hxd)).trans hxd
          simp only [Int.toNat_natCast] at hxd
          have hlen : (cut4 u (l1.take i)).length = i := by simp [cut4]; omega
          obtain ⟨p, hp⟩ : ∃ p, cut4 u (l1.take i) = p := ⟨_, rfl⟩
          obtain ⟨x, hx⟩ : ∃ x, rd l1 i = x := ⟨_, rfl⟩
          rw [hx] at hxd
          rw [hp] at HO hlen
          have HL := Aside0.mk hlen
          have HP := Aside0.mk hp
          have HX := Aside0.mk hx
          clear hlen hp hx
          go_wp2_with (first | (go_at_call 9; refine (Place_calls _ _ _ (by omega) (by omega)).mono ?_; rintro e w' ⟨rfl, rfl⟩) | (at_builtin; refine Kd.R_append (Kd.int .i64) (w0 := w) w.heap.size rfl (.tmp 33) (.tmp 40) 22 3 (.int .i64 0) 8 rfl Try.underlying22 info3 rfl (by decide) (by omega) _ p (x % u) _ (fun _ => True) (fun _ => False) rfl rfl rfl (fun _ hk => hk.elim) (fun _ _ => trivial) HO.out HB.out (below_size HB.out) (by rw [HL.out]; omega) ?_; intro v1 w1 ho hb _ _; have HO1 := Aside0.mk ho; have HB1 := Aside0.mk hb; clear ho hb HO HB))
          go_roundw
          case rel =>
            refine ⟨i + 1, by go_num, by omega, ⟨?_⟩, HB1⟩
            have h1 := HO1.out
            rw [← HP.out] at h1
            rw [List.take_succ_eq_append_getElem hlt, cut4_append]
            have h2 : x = l1[i] := by rw [← HX.out]; simp [rd, List.getD_eq_getElem?_getD, List.getElem?_eq_getElem hlt]
            rw [h2] at h1
            exact h1
          case measure => simp [intOf]; omega
        · obtain rfl : i = l1.length := by omega
          rw [List.take_length] at HO
          obtain ⟨A3, c3, hv3⟩ := Kd.R_slice HO.out
          subst hv3
          go_wp2_with (fail)
          obtain ⟨wo, hwo⟩ : ∃ wo : World, wo = wr := ⟨_, rfl⟩
          subst hwo
          have HBo := HB
          have hc3 := (Kd.R_reads' HO.out).2.1
          have HX := Aside0.mk (C_of_R HO.out)
          clear HB HO
          go_loopw [9, 11] (fun v j w' => ∃ i : Nat, j = .int .i64 i ∧ i ≤ l2.length ∧ Aside0 (Kd.R (Kd.int .i64) 3 w' wo.heap.size (fun _ => True) v (cut4 u (l2.take i))) ∧ Aside0 (Below wo.heap.size wo w')) (fun _ j _ => l2.length - (intOf j).toNat)
          case atStart => exact ⟨0, rfl, by omega, ⟨Kd.R_nil _ _ _ _ _⟩, ⟨Below.refl _ _⟩⟩
          case round =>
            obtain ⟨i, rfl, hi, HO, HB⟩ := hrel
            by_cases hlt : i < l2.length
            · obtain ⟨ad, hB, hxd⟩ := Kd.at_int HR2.out (i : Int) (by omega) (by omega)
              subst hB
              replace hxd := (HBo.out.cell (World.block_lt_of_cell? w _ hxd)).trans hxd
              replace hxd := (HB.out.cell (World.block_lt_of_cell? wo _ hxd)).trans hxd
              simp only [Int.toNat_natCast] at hxd
              have hlen : (cut4 u (l2.take i)).length = i := by simp [cut4]; omega
              obtain ⟨p, hp⟩ : ∃ p, cut4 u (l2.take i) = p := ⟨_, rfl⟩
              obtain ⟨x, hx⟩ : ∃ x, rd l2 i = x := ⟨_, rfl⟩
              rw [hx] at hxd
              rw [hp] at HO hlen
              have HL := Aside0.mk hlen
              have HP := Aside0.mk hp
              have HXX := Aside0.mk hx
              clear hlen hp hx
              go_wp2_with (first | (go_at_call 9; refine (Place_calls _ _ _ (by omega) (by omega)).mono ?_; rintro e w' ⟨rfl, rfl⟩) | (at_builtin; refine Kd.R_append (Kd.int .i64) (w0 := wo) wo.heap.size rfl (.tmp 48) (.tmp 55) 22 3 (.int .i64 0) 8 rfl Try.underlying22 info3 rfl (by decide) (by omega) _ p (x % u) _ (fun _ => True) (fun _ => False) rfl rfl rfl (fun _ hk => hk.elim) (fun _ _ => trivial) HO.out HB.out (below_size HB.out) (by rw [HL.out]; omega) ?_; intro v1 w1 ho hb _ _; have HO1 := Aside0.mk ho; have HB1 := Aside0.mk hb; clear ho hb HO HB))
              go_roundw
              case rel =>
                refine ⟨i + 1, by go_num, by omega, ⟨?_⟩, HB1⟩
                have h1 := HO1.out
                rw [← HP.out] at h1
                rw [List.take_succ_eq_append_getElem hlt, cut4_append]
                have h2 : x = l2[i] := by rw [← HXX.out]; simp [rd, List.getD_eq_getElem?_getD, List.getElem?_eq_getElem hlt]
                rw [h2] at h1
                exact h1
              case measure => simp [intOf]; omega
            · obtain rfl : i = l2.length := by omega
              rw [List.take_length] at HO
              obtain ⟨A4, c4, hv4⟩ := Kd.R_slice HO.out
              subst hv4
              have hc4 := (Kd.R_reads' HO.out).2.1
              have HY := Aside0.mk (C_of_R HO.out)
              have HX' := Aside0.mk (Kd.C_below HX.out HB.out)
              have HB' := Aside0.mk (below_step HBo.out HB.out)
              have hXl : (cut4 u l1).length = l1.length := by simp [cut4]
              have hYl : (cut4 u l2).length = l2.length := by simp [cut4]
              obtain ⟨X, hX⟩ : ∃ X, cut4 u l1 = X := ⟨_, rfl⟩
              obtain ⟨Y, hY⟩ : ∃ Y, cut4 u l2 = Y := ⟨_, rfl⟩
              rw [hX] at HX' hc3 hXl
              rw [hY] at HY hc4 hYl
              rw [hX, hY]
              have hXb : X.length ≤ 40 := by omega
              have hYb : Y.length ≤ 40 := by omega
              have HXE := Aside0.mk hX
              have HYE := Aside0.mk hY
              have HXL := Aside0.mk hXl
              have HYL := Aside0.mk hYl
              clear HX HB HBo HO hX hY hXl hYl
              go_wp2_with (at_builtin; first | (refine Kd.R_append_row (Value.int .i64) 0 (w0 := wr) wr.heap.size rfl (.const (.slice none 0 0)) (.tmp 58) 22 3 (.int .i64 0) 8 rfl Try.underlying22 info3 rfl (by decide) _ [] X _ X.length _ (fun _ => True) rfl rfl (fun _ _ => trivial) (Kd.R_nil _ _ _ _ _) HX'.out (Below.refl _ _) (Nat.le_refl _) (by simp; omega) ?_; intro v8 w8 ho hb hg1 _; clear hg1; rw [List.nil_append] at ho; have HO8 := Aside0.mk ho; have HB8 := Aside0.mk hb; clear ho hb) | (refine Kd.R_append_row (Value.int .i64) 0 (w0 := wr) wr.heap.size rfl (.tmp 59) (.tmp 60) 22 3 (.int .i64 0) 8 rfl Try.underlying22 info3 rfl (by decide) _ X Y _ Y.length _ (fun _ => True) rfl rfl (fun _ _ => trivial) HO8.out (Kd.C_below HY.out HB8.out) HB8.out (below_size HB8.out) (by omega) ?_; intro v9 w9 ho hb hg1 _; clear hg1; have HO9 := Aside0.mk ho; have HB9 := Aside0.mk hb; obtain ⟨A9, c9, hv9⟩ := Kd.R_slice ho; subst hv9; rw [List.length_append]; clear ho hb))
              have hc9 := (Kd.R_reads' HO9.out).2.1
              rw [List.length_append] at hc9
              refine (Window_n _ _ _ (X.length + Y.length) (X ++ Y) List.length_append _ (by have := C_of_R HO9.out; rwa [List.length_append] at this) hc9 (by omega)).mono ?_
              rintro e wa ⟨rfl, hb⟩
              have HXa := Aside0.mk (Kd.C_below (Kd.C_below HX'.out HB9.out) hb)
              have HYa := Aside0.mk (Kd.C_below (Kd.C_below HY.out HB9.out) hb)
              have HBa := Aside0.mk (below_step (below_step HB'.out HB9.out) hb)
              clear hb HB9 HB8 HO9 HO8 HX' HY HB'
              go_wp2_with (fail)
              refine (Window_n _ _ _ X.length X rfl _ HXa.out hc3 (by omega)).mono ?_
              rintro e wb ⟨rfl, hb⟩
              have HYb := Aside0.mk (Kd.C_below HYa.out hb)
              have HBb := Aside0.mk (below_step HBa.out hb)
              clear hb HBa HXa HYa
              go_wp2_with (fail)
              refine (Window_n _ _ _ Y.length Y rfl _ HYb.out hc4 (by omega)).mono ?_
              rintro e wc ⟨rfl, hb⟩
              have HBc := Aside0.mk (below_step HBb.out hb)
              clear hb HBb HYb
              obtain ⟨P, hP⟩ : ∃ P, winP u X = P := ⟨_, rfl⟩
              obtain ⟨Q, hQ⟩ : ∃ Q, winP u Y = Q := ⟨_, rfl⟩
              obtain ⟨R, hR⟩ : ∃ R, winP u (X ++ Y) = R := ⟨_, rfl⟩
              have bP := winP_bd u X
              have bQ := winP_bd u Y
              have bR := winP_bd u (X ++ Y)
              rw [List.length_append] at bR
              rw [hP] at bP ⊢
              rw [hQ] at bQ ⊢
              rw [hR] at bR ⊢
              obtain ⟨bP0, bP1⟩ := bP
              obtain ⟨bQ0, bQ1⟩ := bQ
              obtain ⟨bR0, bR1⟩ := bR
              have bR2 : R ≤ 80 := by omega
              have bP2 : P ≤ 40 := by omega
              have bQ2 : Q ≤ 40 := by omega
              by_cases gu : u = 1
              · have e1 : P = mn X.length 1 := by rw [← hP, ← HXE.out, winP_one _ _ gu, HXE.out, HXL.out]
                have e2 : R = mn (X.length + Y.length : Nat) 1 := by rw [← hR, ← HXE.out, ← HYE.out, ← cut4_append, winP_one _ _ gu, List.length_append, HXE.out, HYE.out, HXL.out, HYL.out]
                have du : (u == 1) = true := beq_iff_eq.mpr gu
                have hxy : ((X.length + Y.length : Nat) : Int) = (X.length : Int) + (Y.length : Int) := by simp
                rw [hxy] at e2
                clear hP hQ hR gu hxy bR1 bP1 bQ1
                subst e1
                subst e2
                go_wp2_with (fail)
                refine (awake_calls _).mono ?_
                rintro e wd ⟨rfl, hb⟩
                have HBd := Aside0.mk (below_step HBc.out hb)
                clear hb
                go_wp2
                go_ret
                exact ⟨rfl, HBd.out⟩
              · have du : (u == 1) = false := beq_eq_false_iff_ne.mpr gu
                obtain ⟨U, rfl⟩ := Int.eq_ofNat_of_zero_le (show 0 ≤ u by omega)
                have hparts := win_parts U X Y
                have hleast := win_least U (X ++ Y)
                rw [hP, hQ, hR] at hparts
                rw [hR] at hleast
                have HPP := Aside0.mk hparts
                have HLL := Aside0.mk hleast
                clear hP hQ hR gu bR1 bP1 bQ1 hparts hleast
                by_cases gR : R = 0
                · subst gR
                  by_cases gP : P = 0
                  · subst gP
                    go_wp2_with (fail)
                    refine (awake_calls _).mono ?_
                    rintro e wd ⟨rfl, hb⟩
                    have HBd := Aside0.mk (below_step HBc.out hb)
                    clear hb
                    go_wp2
                    go_ret
                    exact ⟨rfl, HBd.out⟩
                  · have dP : (P == 0) = false := beq_eq_false_iff_ne.mpr gP
                    by_cases gQ : Q = 0
                    · subst gQ
                      go_wp2_with (fail)
                      refine (awake_calls _).mono ?_
                      rintro e wd ⟨rfl, hb⟩
                      have HBd := Aside0.mk (below_step HBc.out hb)
                      clear hb
                      go_wp2
                      go_ret
                      exact ⟨rfl, HBd.out⟩
                    · have := HPP.out gP gQ
                      omega
                · have dR : (R == 0) = false := beq_eq_false_iff_ne.mpr gR
                  have hU := HLL.out gR
                  have dU : decide ((U : Int) ≤ R) = true := decide_eq_true hU
                  by_cases gP : P = 0
                  · subst gP
                    go_wp2_with (fail)
                    refine (awake_calls _).mono ?_
                    rintro e wd ⟨rfl, hb⟩
                    have HBd := Aside0.mk (below_step HBc.out hb)
                    clear hb
                    go_wp2
                    go_ret
                    exact ⟨rfl, HBd.out⟩
                  · have dP : (P == 0) = false := beq_eq_false_iff_ne.mpr gP
                    by_cases gQ : Q = 0
                    · subst gQ
                      go_wp2_with (fail)
                      refine (awake_calls _).mono ?_
                      rintro e wd ⟨rfl, hb⟩
                      have HBd := Aside0.mk (below_step HBc.out hb)
                      clear hb
                      go_wp2
                      go_ret
                      exact ⟨rfl, HBd.out⟩
                    · have dQ : (Q == 0) = false := beq_eq_false_iff_ne.mpr gQ
                      obtain ⟨p1, p2, p3⟩ := HPP.out gP gQ
                      have dp1 : decide (P ≤ R) = true := decide_eq_true p1
                      have dp2 : decide (Q ≤ R) = true := decide_eq_true p2
                      have dp3 : decide (R ≤ P + Q) = true := decide_eq_true p3
                      go_wp2_with (fail)
                      refine (awake_calls _).mono ?_
                      rintro e wd ⟨rfl, hb⟩
                      have HBd := Aside0.mk (below_step HBc.out hb)
                      clear hb
                      go_wp2
                      go_ret
                      exact ⟨rfl, HBd.out⟩
end Go.Proofs.Ytgmkmdlcifhlaaa.Fair
