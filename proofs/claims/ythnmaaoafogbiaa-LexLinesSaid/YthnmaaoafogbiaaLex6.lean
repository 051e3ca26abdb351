/- awake; what a list of tokens shows. -/
import Derived.Test.YthnmaaoafogbiaaLex5
namespace Go.Proofs.Ythnmaaoafogbiaa.Lex
set_option linter.unusedSimpArgs false
set_option linter.unusedVariables false
open Go.RowKit Go.Proofs.YthnmaaoafogbiaaW.PrintWords Go.Proofs.YthnmaaoafogbiaaW.PrintLast Go.Proofs.YthnmaaoafogbiaaW.PrintMore PLexAll Go.Proofs.YthnmaaoafogbiaaW.Canon
attribute [local go_sem] max2_mx min2_mn max_two min_two max_three min_three max_four min_four

theorem all_a5 : allT ⟨#[97, 32, 53]⟩ = .inr [⟨1, bs [97], 0, 1⟩, ⟨2, bs [], 5, 1⟩, ⟨4, bs [], 0, 1⟩] := by kernel_rfl
set_option maxHeartbeats 1000000 in
theorem awake_calls (w : World) : Calls Try.prog 11 #[] w fun e w' => e = .returned (.bool true) ∧ Below w.heap.size w w' := by
  go_enter Try.func11, Try.ntmps11
  go_wp2_with (fail)
  refine (All_calls _ w).mono ?_
  rintro e w1 ⟨hB, hp⟩
  rw [all_a5] at hp
  obtain ⟨v, rfl, hR, _⟩ := hp
  obtain ⟨A, c, hv⟩ := Kd.R_slice hR
  replace hv : v = .slice A 3 c := hv
  subst hv
  obtain ⟨_, _, hC⟩ := Kd.R_reads' hR
  obtain ⟨ad, rfl, a0, _, _, _⟩ := at_T31 hC 0 (by decide) (by decide)
  obtain ⟨ad', had, b0, _, b2, _⟩ := at_T31 hC 1 (by decide) (by decide)
  obtain rfl := Option.some.inj had
  obtain ⟨ad', had, c0, _, _, _⟩ := at_T31 hC 2 (by decide) (by decide)
  obtain rfl := Option.some.inj had
  have HB := Aside0.mk hB
  clear hB hR hC had
  simp only [rd_T31, List.getD_cons_zero, List.getD_cons_succ, List.length_cons, List.length_nil, Int.reduceToNat, Nat.reduceMul, Nat.reduceAdd] at a0 b0 b2 c0
  rw [show ad.add 0 = ad by simp [Addr.add]] at a0
  rw [show ad.add 4 = ⟨ad.block, ad.off + 4, none⟩ by simp [Addr.add]] at b0 b2
  rw [show ad.add 8 = ⟨ad.block, ad.off + 8, none⟩ by simp [Addr.add]] at c0
  go_wp2
  go_ret
  exact ⟨rfl, HB.out⟩
theorem Place_calls (v n : Int) (w : World) (hn : 0 < n) (hn2 : n ≤ 4611686018427387904) :
    Calls Try.prog 12 #[.int .i64 v, .int .i64 n] w fun e w' => e = .returned (.int .i64 (v % n)) ∧ w = w' := by
  have h0 : (n == 0) = false := beq_eq_false_iff_ne.mpr (by omega)
  have e1 : v % n = if Int.tmod v n < 0 then Int.tmod v n + n else Int.tmod v n := by
    have h1 := Int.tmod_lt_of_pos v hn
    have h2 : -n < Int.tmod v n := by have := Int.lt_tmod_of_pos v hn; omega
    have h4 := Int.emod_nonneg v (show n ≠ 0 by omega)
    have h5 := Int.emod_lt_of_pos v hn
    have h3 : Int.tmod v n = v % n ∨ Int.tmod v n = v % n - n := by
      rw [Int.tmod_eq_emod]
      split
      · exact .inl (by simp)
      · exact .inr (by omega)
    split <;> omega
  have E1 := Aside0.mk e1
  have h1 := Int.tmod_lt_of_pos v hn
  have h2 : -n < Int.tmod v n := by have := Int.lt_tmod_of_pos v hn; omega
  obtain ⟨m, hm⟩ : ∃ m, Int.tmod v n = m := ⟨_, rfl⟩
  rw [hm] at h1 h2 e1
  have E1 := Aside0.mk e1
  clear e1
  by_cases h3 : m < 0
  · have H3 := Aside0.mk h3
    have h3b : decide (m < 0) = true := decide_eq_true h3
    go_enter Try.func12, Try.ntmps12
    go_wp2
    go_ret
    exact ⟨ret_int (by rw [E1.out, if_pos H3.out]), rfl⟩
  · have H3 := Aside0.mk h3
    have h3b : decide (m < 0) = false := decide_eq_false h3
    go_enter Try.func12, Try.ntmps12
    go_wp2
    go_ret
    exact ⟨ret_int (by rw [E1.out, if_neg (Int.not_lt.2 H3.out)]), rfl⟩

end Go.Proofs.Ythnmaaoafogbiaa.Lex
