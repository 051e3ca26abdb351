/- Walks: awake, Place. -/
import Derived.Test.YtmofaahhnokohaaCode4
namespace Go.Proofs.Ytmofaahhnokohaa.Code
set_option linter.unusedSimpArgs false
set_option linter.unusedVariables false
open Go.RowKit Go.Proofs.YtmofaahhnokohaaW.PrintWords Go.Proofs.YtmofaahhnokohaaW.PrintLast Go.Proofs.YtmofaahhnokohaaW.PrintMore PCodeAll Go.Proofs.YtmofaahhnokohaaW.CanonE
attribute [local go_sem] max2_mx min2_mn max_two min_two max_three min_three max_four min_four

def p0 : PG := ⟨[], 0, 0, 1⟩
theorem p0_C (w : World) : p0.C w none := (Kd.R_reads' (c := 0) (Kd.R_nil (Kd.slice 26 k26) 38 w 0 (fun _ => True))).2.2
theorem p0_err : errOf p0 = 0 := by decide
theorem p0_put : strOfNums (putB p0) = ⟨#[77, 71, 80, 0, 0, 0, 1, 0]⟩ := by decide
theorem awake_calls (w : World) : Calls Try.prog 13 #[] w fun e w' => e = .returned (.bool true) ∧ Below w.heap.size w w' := by
  go_enter Try.func13, Try.ntmps13
  go_wp2_with (fail)
  refine (Put_calls p0 none 0 _ (p0_C _)).mono ?_
  rintro e w1 ⟨rfl, hb1⟩
  have HB1 := Aside0.mk hb1
  clear hb1
  rw [p0_err, if_pos rfl, p0_put]
  go_wp2_with (fail)
  refine (Shape_calls ⟨15, 7, 0, 0⟩ _).mono ?_
  rintro e w2 ⟨rfl, hb2⟩
  have HB2 := Aside0.mk (below_step HB1.out hb2)
  clear hb2
  rw [show shape ⟨15, 7, 0, 0⟩ = true by decide]
  go_wp2_with (fail)
  go_ret
  exact ⟨rfl, HB2.out⟩
theorem Place_calls (v n : Int) (w : World) (hn : 0 < n) (hn2 : n ≤ 4611686018427387904) :
    Calls Try.prog 11 #[.int .i64 v, .int .i64 n] w fun e w' => e = .returned (.int .i64 (v % n)) ∧ w = w' := by
  have h0 : (n == 0) = false := beq_eq_false_iff_ne.mpr (by omega)
  have e1 : v % n = if Int.tmod v n < 0 then Int.tmod v n + n else Int.tmod v n := by
    have h1 := Int.tmod_lt_of_pos v hn
    have h2 : -n < Int.tmod v n := by have := Int.lt_tmod_of_pos v hn; omega
    have h4 := Int.emod_nonneg v (show n ≠ 0 by omega)
    have h5 := Int.emod_lt_of_pos v hn
    have h3 : Int.tmod v n = v % n ∨ Int.tmod v n = v % n - n := by
      rw [Int.tmod_eq_emod]
      split
      · exact .inl (by simp)
      · exact .inr (by omega)
    split <;> omega
  have h1 := Int.tmod_lt_of_pos v hn
  have h2 : -n < Int.tmod v n := by have := Int.lt_tmod_of_pos v hn; omega
  obtain ⟨m, hm⟩ : ∃ m, Int.tmod v n = m := ⟨_, rfl⟩
  rw [hm] at h1 h2 e1
  have E1 := Aside0.mk e1
  clear e1
  by_cases h3 : m < 0
  · have H3 := Aside0.mk h3
    have h3b : decide (m < 0) = true := decide_eq_true h3
    go_enter Try.func11, Try.ntmps11
    go_wp2
    go_ret
    exact ⟨congrArg (fun x => Ending.returned (.int .i64 x)) (by rw [E1.out, if_pos H3.out]), rfl⟩
  · have H3 := Aside0.mk h3
    have h3b : decide (m < 0) = false := decide_eq_false h3
    go_enter Try.func11, Try.ntmps11
    go_wp2
    go_ret
    exact ⟨congrArg (fun x => Ending.returned (.int .i64 x)) (by rw [E1.out, if_neg (Int.not_lt.2 H3.out)]), rfl⟩
end Go.Proofs.Ytmofaahhnokohaa.Code
