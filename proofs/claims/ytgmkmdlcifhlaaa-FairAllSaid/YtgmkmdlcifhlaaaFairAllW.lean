/- Walk: the law FairAll. -/
import Derived.Test.YtgmkmdlcifhlaaaFair7
namespace Go.Proofs.Ytgmkmdlcifhlaaa.Fair
open Go.RowKit Go.Proofs.YtgmkmdlcifhlaaaW.PrintWords Go.Proofs.YtgmkmdlcifhlaaaW.PrintLast Go.Proofs.YtgmkmdlcifhlaaaW.PrintMore PFairAll Go.Proofs.YtgmkmdlcifhlaaaW.Canon

theorem FairAll_calls (a0 a2 a3 : Int) (A B : Option Addr) (c d : Nat) (l1 l4 : List Int) (w : World) (h1 : Kd.C (Kd.int .i64) w A l1.length l1) (hc : l1.length ≤ c) (h4 : Kd.C (Kd.int .i64) w B l4.length l4) (hd : l4.length ≤ d) (hm1 : l1.length ≤ 9223372036854775807) (hm4 : l4.length ≤ 9223372036854775807) :
    Calls Try.prog 3 #[.int .i64 a0, .slice A l1.length c, .int .i64 a2, .int .i64 a3, .slice B l4.length d] w fun e w' => e = .returned (.bool true) ∧ Below w.heap.size w w' := by
  have HR1 := Aside0.mk h1
  have HR4 := Aside0.mk h4
  have HC := Aside0.mk hc
  have HD := Aside0.mk hd
  clear h1 h4 hc hd
  by_cases g1 : 60 < l1.length
  · have d1 : decide (60 < l1.length) = true := decide_eq_true g1
    go_enter Try.func3, Try.ntmps3
    go_wp2_with (go_at_call 8; refine (awake_calls _).mono ?_; rintro e w' ⟨rfl, hb⟩; have HB := Aside0.mk hb; clear hb)
    go_ret
    exact ⟨rfl, HB.out⟩
  · have d1 : decide (60 < l1.length) = false := decide_eq_false g1
    by_cases g4 : 100 < l4.length
    · have d4 : decide (100 < l4.length) = true := decide_eq_true g4
      go_enter Try.func3, Try.ntmps3
      go_wp2_with (go_at_call 8; refine (awake_calls _).mono ?_; rintro e w' ⟨rfl, hb⟩; have HB := Aside0.mk hb; clear hb)
      go_ret
      exact ⟨rfl, HB.out⟩
    · have d4 : decide (100 < l4.length) = false := decide_eq_false g4
      by_cases g0 : 100 < a0
      · have d0 : decide (100 < a0) = true := decide_eq_true g0
        go_enter Try.func3, Try.ntmps3
        go_wp2_with (go_at_call 8; refine (awake_calls _).mono ?_; rintro e w' ⟨rfl, hb⟩; have HB := Aside0.mk hb; clear hb)
        go_ret
        exact ⟨rfl, HB.out⟩
      · have d0 : decide (100 < a0) = false := decide_eq_false g0
        obtain ⟨n, hn⟩ : ∃ n, a2 % 300 = n := ⟨_, rfl⟩
        have hn0 : 0 ≤ n := by omega
        have hn1 : n < 300 := by omega
        obtain ⟨r, hr⟩ : ∃ r, winP a0 l1 = r := ⟨_, rfl⟩
        obtain ⟨p, hp⟩ : ∃ p, leanL a0 n a3 l4 = p := ⟨_, rfl⟩
        obtain ⟨q, hq⟩ : ∃ q, leanL a0 n 1 l4 = q := ⟨_, rfl⟩
        obtain ⟨s, hs⟩ : ∃ s, leanL a0 (-n) 1 l4 = s := ⟨_, rfl⟩
        have hsl : s.length = 0 := by rw [← hs, leanL_len]; unfold mx mn; split <;> split <;> omega
        have HN := Aside0.mk hn
        have HRr := Aside0.mk hr
        have HP := Aside0.mk hp
        have HQ := Aside0.mk hq
        have HS := Aside0.mk hs
        have HSL := Aside0.mk hsl
        clear hn hr hp hq hs hsl
        go_enter Try.func3, Try.ntmps3
        go_wp2_with (fail)
        refine (Place_calls _ _ _ (by omega) (by omega)).mono ?_
        rintro e w' ⟨rfl, rfl⟩
        rw [HN.out]
        go_wp2_with (fail)
        refine (Window_calls _ _ _ _ _ HR1.out HC.out (by omega)).mono ?_
        rintro e w1 ⟨rfl, hb⟩
        rw [HRr.out]
        have HB1 := Aside0.mk hb
        clear hb
        go_wp2_with (fail)
        refine (refWindow_calls _ _ _ _ _ (Kd.C_below HR1.out HB1.out) HC.out (by omega) (by omega)).mono ?_
        rintro e w' ⟨rfl, rfl⟩
        rw [HRr.out]
        go_wp2_with (fail)
        refine (Lean_calls _ _ _ _ _ _ _ (Kd.C_below HR4.out HB1.out) HD.out).mono ?_
        rintro e w2 ⟨v, rfl, ho, hb⟩
        rw [HP.out] at ho
        obtain ⟨A2, c2, rfl⟩ := Kd.R_slice ho
        have HB2 := Aside0.mk (below_step HB1.out hb)
        have HO2 := Aside0.mk ho
        clear hb ho HB1
        go_wp2_with (fail)
        refine (refLean_calls _ _ _ _ _ _ _ (Kd.C_below HR4.out HB2.out)).mono ?_
        rintro e w3 ⟨v, rfl, ho, hb⟩
        rw [HP.out] at ho
        obtain ⟨A3, c3, rfl⟩ := Kd.R_slice ho
        have HB3 := Aside0.mk (below_step HB2.out hb)
        have HO3 := Aside0.mk ho
        have HO2' := Aside0.mk (Kd.R_below HO2.out hb)
        clear hb ho HB2 HO2
        go_wp2_with (fail)
        refine (SamePicks_calls _ _ _ _ _ _ (Kd.R_reads' HO2'.out).2.2 (Kd.R_reads' HO3.out).2.2).mono ?_
        rintro e w4 ⟨rfl, hb⟩
        have HB4 := Aside0.mk (below_step HB3.out hb.below)
        clear hb HB3 HO3 HO2'
        go_wp2_with (fail)
        refine (Round_calls _ _ _ _ _ _ (Kd.C_below HR4.out HB4.out) HD.out).mono ?_
        rintro e w5 ⟨v, rfl, ho, hb⟩
        rw [HQ.out] at ho
        obtain ⟨A5, c5, rfl⟩ := Kd.R_slice ho
        have HB5 := Aside0.mk (below_step HB4.out hb)
        have HO5 := Aside0.mk ho
        clear hb ho HB4
        go_wp2_with (fail)
        refine (refLean_calls _ _ _ _ _ _ _ (Kd.C_below HR4.out HB5.out)).mono ?_
        rintro e w6 ⟨v, rfl, ho, hb⟩
        rw [HQ.out] at ho
        obtain ⟨A6, c6, rfl⟩ := Kd.R_slice ho
        have HB6 := Aside0.mk (below_step HB5.out hb)
        have HO6 := Aside0.mk ho
        have HO5' := Aside0.mk (Kd.R_below HO5.out hb)
        clear hb ho HB5 HO5
        go_wp2_with (fail)
        refine (SamePicks_calls _ _ _ _ _ _ (Kd.R_reads' HO5'.out).2.2 (Kd.R_reads' HO6.out).2.2).mono ?_
        rintro e w7 ⟨rfl, hb⟩
        have HB7 := Aside0.mk (below_step HB6.out hb.below)
        clear hb HB6 HO6 HO5'
        go_wp2_with (fail)
        refine (Round_calls _ _ _ _ _ _ (Kd.C_below HR4.out HB7.out) HD.out).mono ?_
        rintro e w8 ⟨v, rfl, ho, hb⟩
        rw [HS.out] at ho
        obtain ⟨A8, c8, rfl⟩ := Kd.R_slice ho
        have HB8 := Aside0.mk (below_step HB7.out hb)
        clear hb ho HB7
        rw [HSL.out]
        go_wp2_with (fail)
        refine (awake_calls _).mono ?_
        rintro e w9 ⟨rfl, hb⟩
        have HB9 := Aside0.mk (below_step HB8.out hb)
        clear hb
        go_wp2
        go_ret
        exact ⟨rfl, HB9.out⟩
end Go.Proofs.Ytgmkmdlcifhlaaa.Fair
