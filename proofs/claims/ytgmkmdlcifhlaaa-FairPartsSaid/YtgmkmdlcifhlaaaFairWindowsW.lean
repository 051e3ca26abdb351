/- Walk: the law FairWindows. -/
import Derived.Test.YtgmkmdlcifhlaaaFair7
import Derived.Test.YtgmkmdlcifhlaaaFair8
namespace Go.Proofs.Ytgmkmdlcifhlaaa.Fair
open Go.RowKit Go.Proofs.YtgmkmdlcifhlaaaW.PrintWords Go.Proofs.YtgmkmdlcifhlaaaW.PrintLast Go.Proofs.YtgmkmdlcifhlaaaW.PrintMore PFairAll Go.Proofs.YtgmkmdlcifhlaaaW.Canon
attribute [local go_sem] max2_mx min2_mn max_two min_two max_three min_three max_four min_four

theorem works_lean (u n k : Nat) (u1 : 1 ≤ u) (u2 : u ≤ 64) (n2 : n ≤ 1048576) (k1 : 1 ≤ k) (k2 : k ≤ 100) : (leanL u n k []).map (·.f0) = cyc u k n := by
  have e1 : mx 1 (mn (u : Int) 64) = u := by unfold mx mn; split <;> split <;> omega
  have e2 : mx 0 (mn (n : Int) 1048576) = n := by unfold mx mn; split <;> split <;> omega
  have e3 : mx 1 (mn (k : Int) 100) = k := by unfold mx mn; split <;> split <;> omega
  rw [leanL, e1, e2, e3, cyc, List.map_map]
  rfl

theorem C_of_R {w : World} {base : Nat} {A : Option Addr} {n c : Nat} {xs : List Int} (h : Kd.R (Kd.int .i64) 3 w base (fun _ => True) (.slice A n c) xs) : Kd.C (Kd.int .i64) w A n xs := by
  obtain ⟨rfl, _, h2⟩ := Kd.R_reads' h
  exact h2

theorem Window_n (work : Int) (A : Option Addr) (c n : Nat) (l : List Int) (hn : l.length = n) (w : World) (hr : Kd.C (Kd.int .i64) w A n l) (hc : n ≤ c) (hl : n ≤ 17592186044416) :
    Calls Try.prog 10 #[.int .i64 work, .slice A n c] w fun e w' => e = .returned (.int .i64 (winP work l)) ∧ Below w.heap.size w w' := by
  subst hn
  exact Window_calls work A c l w hr hc hl
theorem refWindow_n (work : Int) (A : Option Addr) (c n : Nat) (l : List Int) (hn : l.length = n) (w : World) (hr : Kd.C (Kd.int .i64) w A n l) (hc : n ≤ c) (hl : n ≤ 17592186044416) (hw : work ≤ 4611686018427387904) :
    Calls Try.prog 11 #[.int .i64 work, .slice A n c] w fun e w' => e = .returned (.int .i64 (winP work l)) ∧ w = w' := by
  subst hn
  exact refWindow_calls work A c l w hr hc hl hw
theorem works_n (A : Option Addr) (c n : Nat) (xs : List S34) (hn : xs.length = n) (w : World) (hx : Kd.C k34 w A n xs) (hl : n ≤ 1048576) :
    Calls Try.prog 16 #[.slice A n c] w fun e w' => ∃ v, e = .returned v ∧ Kd.R (Kd.int .i64) 3 w' w.heap.size (fun _ => True) v (xs.map (·.f0)) ∧ Below w.heap.size w w' := by
  subst hn
  exact works_calls A c xs w hx hl

theorem turn_val (u i : Nat) (u1 : 1 ≤ u) (u2 : u ≤ 8) : (wrap64 ((i : Int) % (u : Int) + 1)).tmod (u : Int) = (((i % u + 1) % u : Nat) : Int) := by
  have hm0 : 0 ≤ (i : Int) % (u : Int) := Int.emod_nonneg _ (by omega)
  have hm1 : (i : Int) % (u : Int) < u := Int.emod_lt_of_pos _ (by omega)
  have e1 : wrap64 ((i : Int) % (u : Int) + 1) = (i : Int) % (u : Int) + 1 := by unfold wrap64; omega
  rw [e1, Int.tmod_eq_emod_of_nonneg (by omega)]
  simp

theorem cell_fact {W : World} {base g n cap : Nat} {ok : Nat → Prop} {xs : List Int} (ho : Kd.R (Kd.int .i64) 3 W base ok (.slice (some ⟨g, 0, none⟩) n cap) xs) (i : Nat) (hi : i < n) (x : Int) (hx : rd xs i = x) :
    W.cell? ⟨g, i, none⟩ = some (.int .i64 x) ∧ W.frozen? ⟨g, i, none⟩ = false := by
  have h := Kd.R_celln (enc := Value.int .i64) (h1 := fun _ => rfl) 0 ho (i : Int) (by omega) (by omega)
  have e : rdOf 0 xs (i : Int) = x := hx
  simp only [Int.toNat_natCast, e] at h
  exact h

set_option maxHeartbeats 4000000 in
theorem FairWindows_calls (a0 a1 a2 a3 : Int) (w : World) :
    Calls Try.prog 4 #[.int .i64 a0, .int .i64 a1, .int .i64 a2, .int .i64 a3] w fun e w' => e = .returned (.bool true) ∧ Below w.heap.size w w' := by
  obtain ⟨u', hu⟩ : ∃ n, 1 + a0 % 8 = n := ⟨_, rfl⟩
  obtain ⟨k', hk⟩ : ∃ n, 1 + a1 % 6 = n := ⟨_, rfl⟩
  obtain ⟨r', hr⟩ : ∃ n, 2 + a2 % 4 = n := ⟨_, rfl⟩
  obtain ⟨u, rfl⟩ := Int.eq_ofNat_of_zero_le (show 0 ≤ u' by omega)
  obtain ⟨k, rfl⟩ := Int.eq_ofNat_of_zero_le (show 0 ≤ k' by omega)
  obtain ⟨r, rfl⟩ := Int.eq_ofNat_of_zero_le (show 0 ≤ r' by omega)
  have u1 : 1 ≤ u := by omega
  have u2 : u ≤ 8 := by omega
  have k1 : 1 ≤ k := by omega
  have k2 : k ≤ 6 := by omega
  have r1 : 2 ≤ r := by omega
  have r2 : r ≤ 5 := by omega
  obtain ⟨n, hn⟩ : ∃ n, u * r = n := ⟨_, rfl⟩
  obtain ⟨p, hp⟩ : ∃ n, u * k = n := ⟨_, rfl⟩
  obtain ⟨q, hq⟩ : ∃ n, u * k * r = n := ⟨_, rfl⟩
  have n1 : 2 ≤ n := by have := Nat.mul_le_mul u1 r1; omega
  have n2 : n ≤ 40 := by have := Nat.mul_le_mul u2 r2; omega
  have p2 : p ≤ 48 := by have := Nat.mul_le_mul u2 k2; omega
  have q2 : q ≤ 240 := by rw [hp] at hq; have := Nat.mul_le_mul p2 r2; omega
  have hni : (u : Int) * (r : Int) = (n : Int) := by rw [← hn]; simp
  have hpi : (u : Int) * (k : Int) = (p : Int) := by rw [← hp]; simp
  have hqi : (p : Int) * (r : Int) = (q : Int) := by rw [← hq, hp]; simp
  have W1 : winP u (cyc u 1 n) = u := by
    have := cyc_win u 1 r u1 (by omega) (by omega)
    rw [Nat.mul_one, hn] at this
    rw [this]
    omega
  have W2 : winP u (cyc u k q) = ((u : Int) - 1) * (k : Int) + 1 := by
    have := cyc_win u k r u1 k1 (by omega)
    rw [hq] at this
    rw [this]
    simp [Int.natCast_sub u1]
  have W3 : winP ((u : Int) + 1) (cyc u 1 n) = 0 := cyc_more u 1 n u1
  have L1 : (leanL u n 1 []).map (·.f0) = cyc u 1 n := works_lean u n 1 u1 (by omega) (by omega) (by omega) (by omega)
  have L2 : (leanL u q k []).map (·.f0) = cyc u k q := works_lean u q k u1 (by omega) (by omega) k1 (by omega)
  have N1 : (leanL u n 1 []).length = n := by rw [← List.length_map (f := (·.f0)), L1, cyc_len]
  have N2 : (leanL u q k []).length = q := by rw [← List.length_map (f := (·.f0)), L2, cyc_len]
  obtain ⟨z, hz⟩ : ∃ z, ((u : Int) - 1) * (k : Int) = z := ⟨_, rfl⟩
  have z0 : 0 ≤ z := by rw [← hz]; exact Int.mul_nonneg (by omega) (by omega)
  have z1 : z ≤ 48 := by
    rw [← hz]
    have := Int.mul_le_mul (show (u : Int) - 1 ≤ 7 by omega) (show (k : Int) ≤ 6 by omega) (by omega) (by omega)
    omega
  rw [hz] at W2
  have HW1 := Aside0.mk W1
  have HW2 := Aside0.mk W2
  have HW3 := Aside0.mk W3
  have HL1 := Aside0.mk L1
  have HL2 := Aside0.mk L2
  have HN1 := Aside0.mk N1
  have HN2 := Aside0.mk N2
  have HNN := Aside0.mk hn
  clear W1 W2 W3 L1 L2 N1 N2 hn hp hq
  go_enter Try.func4, Try.ntmps4
  go_wp2_with (go_at_call 9; refine (Place_calls _ _ _ (by omega) (by omega)).mono ?_; rintro e w' ⟨rfl, rfl⟩)
  refine (Round_calls _ _ _ _ [] _ (Kd.C_nil _ _) (by decide)).mono ?_
  rintro e w1 ⟨v, rfl, ho, hb⟩
  obtain ⟨A1, c1, rfl⟩ := Kd.R_slice ho
  rw [HN1.out]
  have HB1 := Aside0.mk hb
  have HO1 := Aside0.mk ho
  clear hb ho
  go_wp2_with (fail)
  refine (works_n _ _ n _ HN1.out _ (by have := (Kd.R_reads' HO1.out).2.2; rwa [HN1.out] at this) (by omega)).mono ?_
  rintro e w2 ⟨v, rfl, ho, hb⟩
  rw [HL1.out] at ho
  obtain ⟨A2, c2, rfl⟩ := Kd.R_slice ho
  rw [cyc_len]
  have HB2 := Aside0.mk (below_step HB1.out hb)
  have HO2 := Aside0.mk (C_of_R (by rw [cyc_len] at ho; exact ho))
  have hc2 := (Kd.R_reads' ho).2.1
  rw [cyc_len] at hc2
  clear hb ho HB1 HO1
  go_wp2_with (fail)
  refine (Lean_calls _ _ _ _ _ [] _ (Kd.C_nil _ _) (by decide)).mono ?_
  rintro e w3 ⟨v, rfl, ho, hb⟩
  obtain ⟨A3, c3, rfl⟩ := Kd.R_slice ho
  rw [HN2.out]
  have HB3 := Aside0.mk (below_step HB2.out hb)
  have HO2' := Aside0.mk (Kd.C_below HO2.out hb)
  have HO3 := Aside0.mk ho
  clear hb ho HB2 HO2
  go_wp2_with (fail)
  refine (works_n _ _ q _ HN2.out _ (by have := (Kd.R_reads' HO3.out).2.2; rwa [HN2.out] at this) (by omega)).mono ?_
  rintro e w4 ⟨v, rfl, ho, hb⟩
  rw [HL2.out] at ho
  obtain ⟨A4, c4, rfl⟩ := Kd.R_slice ho
  rw [cyc_len]
  have HB4 := Aside0.mk (below_step HB3.out hb)
  have HO2 := Aside0.mk (Kd.C_below HO2'.out hb)
  have HO4 := Aside0.mk (C_of_R (by rw [cyc_len] at ho; exact ho))
  have hc4 := (Kd.R_reads' ho).2.1
  rw [cyc_len] at hc4
  clear hb ho HB3 HO3 HO2'
  go_wp2_with (fail)
  refine (Window_n _ _ _ n _ (cyc_len _ _ _) _ HO2.out hc2 (by omega)).mono ?_
  rintro e w5 ⟨rfl, hb⟩
  rw [HW1.out]
  have HB5 := Aside0.mk (below_step HB4.out hb)
  have HO5 := Aside0.mk (Kd.C_below HO2.out hb)
  have HP5 := Aside0.mk (Kd.C_below HO4.out hb)
  clear hb HB4 HO2 HO4
  go_wp2_with (fail)
  refine (Window_n _ _ _ q _ (cyc_len _ _ _) _ HP5.out hc4 (by omega)).mono ?_
  rintro e w6 ⟨rfl, hb⟩
  rw [HW2.out]
  have HB6 := Aside0.mk (below_step HB5.out hb)
  have HO6 := Aside0.mk (Kd.C_below HO5.out hb)
  clear hb HB5 HO5 HP5
  go_wp2_with (fail)
  refine (Window_n _ _ _ n _ (cyc_len _ _ _) _ HO6.out hc2 (by omega)).mono ?_
  rintro e w7 ⟨rfl, hb⟩
  have hu1 : ((u : Int) + 1) = 1 + u := by omega
  rw [HW3.out]
  have HB7 := Aside0.mk (below_step HB6.out hb)
  have HO7 := Aside0.mk (Kd.C_below HO6.out hb)
  clear hb HB6 HO6 hu1
  by_cases g1 : u = 1
  · have d1 : ((u : Int) == 1) = true := beq_iff_eq.mpr (by omega)
    have d2 : (u == 1) = true := beq_iff_eq.mpr g1
    have G1 := Aside0.mk g1
    clear g1
    go_wp2_with (fail)
    refine (awake_calls _).mono ?_
    rintro e w9 ⟨rfl, hb⟩
    have HB9 := Aside0.mk (below_step HB7.out hb)
    clear hb
    go_wp2
    go_ret
    exact ⟨rfl, HB9.out⟩
  · have d1 : ((u : Int) == 1) = false := beq_eq_false_iff_ne.mpr (by omega)
    have d2 : (u == 1) = false := beq_eq_false_iff_ne.mpr g1
    obtain ⟨i', hi⟩ : ∃ i, a3 % (n : Int) = i := ⟨_, rfl⟩
    have hi0 : 0 ≤ i' := by rw [← hi]; exact Int.emod_nonneg _ (by omega)
    have hi1 : i' < n := by rw [← hi]; exact Int.emod_lt_of_pos _ (by omega)
    obtain ⟨i, rfl⟩ := Int.eq_ofNat_of_zero_le hi0
    have hin : i < n := by omega
    have HXV : Aside0 (rd (cyc u 1 n) i = ((i % u : Nat) : Int)) := ⟨by have := cyc_rd u 1 n i hin; rwa [Nat.div_one] at this⟩
    have hn0 : (n == 0) = false := beq_eq_false_iff_ne.mpr (by omega)
    go_wp2_with (first | (go_at_call 9; refine (Place_calls _ _ _ (by omega) (by omega)).mono ?_; rintro e w' ⟨rfl, rfl⟩) | (at_builtin; refine Kd.R_append_row (Value.int .i64) 0 (w0 := w) w.heap.size rfl (.const (.slice none 0 0)) (.tmp 80) 22 3 (.int .i64 0) 8 rfl Try.underlying22 info3 rfl (by decide) _ [] (cyc u 1 n) _ n _ (fun _ => True) rfl rfl (fun _ _ => trivial) (Kd.R_nil _ _ _ _ _) HO7.out HB7.out (below_size HB7.out) (by simp; omega) ?_; intro v1 w8 ho hb _ _; obtain ⟨g, c8, he, hgw, hg1, _⟩ := Kd.R_form ho (by rw [List.nil_append, cyc_len]; omega); subst he; rw [List.nil_append, cyc_len] at ho ⊢; obtain ⟨hx0, hx1⟩ := cell_fact ho i hin _ HXV.out; have HO8 := Aside0.mk ho; have HB8 := Aside0.mk hb; clear ho hb))
    have hval := turn_val u i u1 u2
    rw [hval]
    have hlt : winP u ((cyc u 1 n).set i (((i % u + 1) % u : Nat) : Int)) > u ∨ winP u ((cyc u 1 n).set i (((i % u + 1) % u : Nat) : Int)) = 0 := by
      have := turned u r i (by omega) (by omega) (by rw [HNN.out]; exact hin)
      rwa [HNN.out] at this
    have HR9 : Aside0 (Kd.C (Kd.int .i64) (w8.setCell ⟨g, i, none⟩ (.int .i64 (((i % u + 1) % u : Nat) : Int))) (some ⟨g, 0, none⟩) n ((cyc u 1 n).set i (((i % u + 1) % u : Nat) : Int))) := by
      have := Kd.R_putn (enc := Value.int .i64) (h1 := fun _ => rfl) HO8.out (i : Int) (((i % u + 1) % u : Nat) : Int)
      simp only [Int.toNat_natCast] at this
      exact ⟨C_of_R this⟩
    have HB9 := Aside0.mk (below_set (j := i) (v := .int .i64 (((i % u + 1) % u : Nat) : Int)) HB8.out hgw)
    obtain ⟨cc, hcc⟩ : ∃ cc, (cyc u 1 n).set i (((i % u + 1) % u : Nat) : Int) = cc := ⟨_, rfl⟩
    have hcl : cc.length = n := by rw [← hcc, List.length_set, cyc_len]
    rw [hcc] at HR9 hlt
    obtain ⟨s, hs⟩ : ∃ s, winP u cc = s := ⟨_, rfl⟩
    rw [hs] at hlt
    have HCL := Aside0.mk hcl
    have HS := Aside0.mk hs
    have HLT := Aside0.mk hlt
    have hc8 : n ≤ c8 := (Kd.R_reads' HO8.out).2.1
    clear hcl hs hcc hlt hx0 hx1 HO8 HB8 hval HXV
    revert HR9 HB9
    generalize w8.setCell ⟨g, i, none⟩ (.int .i64 (((i % u + 1) % u : Nat) : Int)) = w9
    intro HB9 HR9
    refine (Window_n _ _ _ n cc HCL.out _ HR9.out hc8 (by omega)).mono ?_
    rintro e wa ⟨rfl, hb⟩
    rw [HS.out]
    have HBa := Aside0.mk (below_step HB9.out hb)
    have HRa := Aside0.mk (Kd.C_below HR9.out hb)
    clear hb HB9 HR9
    go_wp2_with (fail)
    refine (refWindow_n _ _ _ n cc HCL.out _ HRa.out hc8 (by omega) (by omega)).mono ?_
    rintro e w' ⟨rfl, rfl⟩
    rw [HS.out]
    go_wp2_with (fail)
    refine (Window_n _ _ _ n cc HCL.out _ HRa.out hc8 (by omega)).mono ?_
    rintro e wb ⟨rfl, hb⟩
    rw [HS.out]
    have HBb := Aside0.mk (below_step HBa.out hb)
    have HRb := Aside0.mk (Kd.C_below HRa.out hb)
    clear hb HBa HRa
    by_cases hgt : (u : Int) < s
    · have d3 : decide ((u : Int) < s) = true := decide_eq_true hgt
      go_wp2_with (fail)
      refine (awake_calls _).mono ?_
      rintro e wd ⟨rfl, hb⟩
      have HBd := Aside0.mk (below_step HBb.out hb)
      clear hb
      go_wp2
      go_ret
      exact ⟨rfl, HBd.out⟩
    · have d3 : decide ((u : Int) < s) = false := decide_eq_false hgt
      have hz0 : s = 0 := by have := HLT.out; omega
      subst hz0
      go_wp2_with (fail)
      refine (Window_n _ _ _ n cc HCL.out _ HRb.out hc8 (by omega)).mono ?_
      rintro e wc ⟨rfl, hb⟩
      rw [HS.out]
      have HBc := Aside0.mk (below_step HBb.out hb)
      clear hb
      go_wp2_with (fail)
      refine (awake_calls _).mono ?_
      rintro e wd ⟨rfl, hb⟩
      have HBd := Aside0.mk (below_step HBc.out hb)
      clear hb
      go_wp2
      go_ret
      exact ⟨rfl, HBd.out⟩
end Go.Proofs.Ytgmkmdlcifhlaaa.Fair
