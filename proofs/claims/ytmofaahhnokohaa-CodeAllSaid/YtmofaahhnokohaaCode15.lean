/- Walks of the reference: kinds, right, Shape. -/
import Derived.Test.YtmofaahhnokohaaCode4
import Derived.Test.YtmofaahhnokohaaPCodeAllx1
namespace Go.Proofs.Ytmofaahhnokohaa.Code
set_option linter.unusedSimpArgs false
set_option linter.unusedVariables false
open Go.RowKit Go.Proofs.YtmofaahhnokohaaW.PrintWords Go.Proofs.YtmofaahhnokohaaW.PrintLast Go.Proofs.YtmofaahhnokohaaW.PrintMore PCodeAll Go.Proofs.YtmofaahhnokohaaW.CanonE
attribute [local go_sem] max2_mx min2_mn max_two min_two max_three min_three max_four min_four


set_option maxHeartbeats 1000000 in
theorem rkinds_calls (op : Int) (w : World) :
    Calls Try.prog 38 #[.int .i64 op] w fun e w' => e = .returned (.agg #[.int .i64 (kinds op).1, .int .i64 (kinds op).2.1, .int .i64 (kinds op).2.2]) ∧ Below w.heap.size w w' := by
  by_cases h : 1 ≤ op ∧ op ≤ 15
  · have hc : op = 1 ∨ op = 2 ∨ op = 3 ∨ op = 4 ∨ op = 5 ∨ op = 6 ∨ op = 7 ∨ op = 8 ∨ op = 9 ∨ op = 10 ∨ op = 11 ∨ op = 12 ∨ op = 13 ∨ op = 14 ∨ op = 15 := by omega
    clear h
    rcases hc with rfl | rfl | rfl | rfl | rfl | rfl | rfl | rfl | rfl | rfl | rfl | rfl | rfl | rfl | rfl
    · go_enter Try.func38, Try.ntmps38
      go_wp2
      have SX := Aside0.mk (heap_alloc_new w (.cells #[.int .i64 1, .int .i64 6, .int .i64 0] 23))
      refine bodyPost_ret (results_single rfl (.cell w.heap.size 23 #[.int .i64 1, .int .i64 6, .int .i64 0] (0, 0) _ rfl SX.out Try.underlying23 rfl info23 .nil)) rfl ?_
      exact ⟨rfl, below_alloc (Below.refl _ _) _⟩
    · go_enter Try.func38, Try.ntmps38
      go_wp2
      have SX := Aside0.mk (heap_alloc_new w (.cells #[.int .i64 1, .int .i64 1, .int .i64 1] 23))
      refine bodyPost_ret (results_single rfl (.cell w.heap.size 23 #[.int .i64 1, .int .i64 1, .int .i64 1] (0, 0) _ rfl SX.out Try.underlying23 rfl info23 .nil)) rfl ?_
      exact ⟨rfl, below_alloc (Below.refl _ _) _⟩
    · go_enter Try.func38, Try.ntmps38
      go_wp2
      have SX := Aside0.mk (heap_alloc_new w (.cells #[.int .i64 1, .int .i64 1, .int .i64 1] 23))
      refine bodyPost_ret (results_single rfl (.cell w.heap.size 23 #[.int .i64 1, .int .i64 1, .int .i64 1] (0, 0) _ rfl SX.out Try.underlying23 rfl info23 .nil)) rfl ?_
      exact ⟨rfl, below_alloc (Below.refl _ _) _⟩
    · go_enter Try.func38, Try.ntmps38
      go_wp2
      have SX := Aside0.mk (heap_alloc_new w (.cells #[.int .i64 1, .int .i64 1, .int .i64 1] 23))
      refine bodyPost_ret (results_single rfl (.cell w.heap.size 23 #[.int .i64 1, .int .i64 1, .int .i64 1] (0, 0) _ rfl SX.out Try.underlying23 rfl info23 .nil)) rfl ?_
      exact ⟨rfl, below_alloc (Below.refl _ _) _⟩
    · go_enter Try.func38, Try.ntmps38
      go_wp2
      have SX := Aside0.mk (heap_alloc_new w (.cells #[.int .i64 1, .int .i64 1, .int .i64 1] 23))
      refine bodyPost_ret (results_single rfl (.cell w.heap.size 23 #[.int .i64 1, .int .i64 1, .int .i64 1] (0, 0) _ rfl SX.out Try.underlying23 rfl info23 .nil)) rfl ?_
      exact ⟨rfl, below_alloc (Below.refl _ _) _⟩
    · go_enter Try.func38, Try.ntmps38
      go_wp2
      have SX := Aside0.mk (heap_alloc_new w (.cells #[.int .i64 1, .int .i64 1, .int .i64 1] 23))
      refine bodyPost_ret (results_single rfl (.cell w.heap.size 23 #[.int .i64 1, .int .i64 1, .int .i64 1] (0, 0) _ rfl SX.out Try.underlying23 rfl info23 .nil)) rfl ?_
      exact ⟨rfl, below_alloc (Below.refl _ _) _⟩
    · go_enter Try.func38, Try.ntmps38
      go_wp2
      have SX := Aside0.mk (heap_alloc_new w (.cells #[.int .i64 5, .int .i64 0, .int .i64 0] 23))
      refine bodyPost_ret (results_single rfl (.cell w.heap.size 23 #[.int .i64 5, .int .i64 0, .int .i64 0] (0, 0) _ rfl SX.out Try.underlying23 rfl info23 .nil)) rfl ?_
      exact ⟨rfl, below_alloc (Below.refl _ _) _⟩
    · go_enter Try.func38, Try.ntmps38
      go_wp2
      have SX := Aside0.mk (heap_alloc_new w (.cells #[.int .i64 1, .int .i64 5, .int .i64 0] 23))
      refine bodyPost_ret (results_single rfl (.cell w.heap.size 23 #[.int .i64 1, .int .i64 5, .int .i64 0] (0, 0) _ rfl SX.out Try.underlying23 rfl info23 .nil)) rfl ?_
      exact ⟨rfl, below_alloc (Below.refl _ _) _⟩
    · go_enter Try.func38, Try.ntmps38
      go_wp2
      have SX := Aside0.mk (heap_alloc_new w (.cells #[.int .i64 2, .int .i64 4, .int .i64 1] 23))
      refine bodyPost_ret (results_single rfl (.cell w.heap.size 23 #[.int .i64 2, .int .i64 4, .int .i64 1] (0, 0) _ rfl SX.out Try.underlying23 rfl info23 .nil)) rfl ?_
      exact ⟨rfl, below_alloc (Below.refl _ _) _⟩
    · go_enter Try.func38, Try.ntmps38
      go_wp2
      have SX := Aside0.mk (heap_alloc_new w (.cells #[.int .i64 1, .int .i64 2, .int .i64 0] 23))
      refine bodyPost_ret (results_single rfl (.cell w.heap.size 23 #[.int .i64 1, .int .i64 2, .int .i64 0] (0, 0) _ rfl SX.out Try.underlying23 rfl info23 .nil)) rfl ?_
      exact ⟨rfl, below_alloc (Below.refl _ _) _⟩
    · go_enter Try.func38, Try.ntmps38
      go_wp2
      have SX := Aside0.mk (heap_alloc_new w (.cells #[.int .i64 3, .int .i64 1, .int .i64 0] 23))
      refine bodyPost_ret (results_single rfl (.cell w.heap.size 23 #[.int .i64 3, .int .i64 1, .int .i64 0] (0, 0) _ rfl SX.out Try.underlying23 rfl info23 .nil)) rfl ?_
      exact ⟨rfl, below_alloc (Below.refl _ _) _⟩
    · go_enter Try.func38, Try.ntmps38
      go_wp2
      have SX := Aside0.mk (heap_alloc_new w (.cells #[.int .i64 1, .int .i64 3, .int .i64 0] 23))
      refine bodyPost_ret (results_single rfl (.cell w.heap.size 23 #[.int .i64 1, .int .i64 3, .int .i64 0] (0, 0) _ rfl SX.out Try.underlying23 rfl info23 .nil)) rfl ?_
      exact ⟨rfl, below_alloc (Below.refl _ _) _⟩
    · go_enter Try.func38, Try.ntmps38
      go_wp2
      have SX := Aside0.mk (heap_alloc_new w (.cells #[.int .i64 2, .int .i64 0, .int .i64 0] 23))
      refine bodyPost_ret (results_single rfl (.cell w.heap.size 23 #[.int .i64 2, .int .i64 0, .int .i64 0] (0, 0) _ rfl SX.out Try.underlying23 rfl info23 .nil)) rfl ?_
      exact ⟨rfl, below_alloc (Below.refl _ _) _⟩
    · go_enter Try.func38, Try.ntmps38
      go_wp2
      have SX := Aside0.mk (heap_alloc_new w (.cells #[.int .i64 0, .int .i64 0, .int .i64 0] 23))
      refine bodyPost_ret (results_single rfl (.cell w.heap.size 23 #[.int .i64 0, .int .i64 0, .int .i64 0] (0, 0) _ rfl SX.out Try.underlying23 rfl info23 .nil)) rfl ?_
      exact ⟨rfl, below_alloc (Below.refl _ _) _⟩
    · go_enter Try.func38, Try.ntmps38
      go_wp2
      have SX := Aside0.mk (heap_alloc_new w (.cells #[.int .i64 1, .int .i64 0, .int .i64 0] 23))
      refine bodyPost_ret (results_single rfl (.cell w.heap.size 23 #[.int .i64 1, .int .i64 0, .int .i64 0] (0, 0) _ rfl SX.out Try.underlying23 rfl info23 .nil)) rfl ?_
      exact ⟨rfl, below_alloc (Below.refl _ _) _⟩
  · have E := Aside0.mk (show kinds op = (0, 0, 0) by
      unfold kinds
      rw [if_neg (by omega), if_neg (by omega), if_neg (by omega), if_neg (by omega), if_neg (by omega), if_neg (by omega), if_neg (by omega), if_neg (by omega), if_neg (by omega), if_neg (by omega)])
    obtain ⟨t1, t2, t3, t4, t5, t6, t7, t8, t9, t10, t11, t12, t13, t14, t15⟩ : (op == 1) = false ∧ (op == 2) = false ∧ (op == 3) = false ∧ (op == 4) = false ∧ (op == 5) = false ∧ (op == 6) = false ∧ (op == 7) = false ∧ (op == 8) = false ∧ (op == 9) = false ∧ (op == 10) = false ∧ (op == 11) = false ∧ (op == 12) = false ∧ (op == 13) = false ∧ (op == 14) = false ∧ (op == 15) = false := by
      simp only [beq_eq_false_iff_ne, ne_eq]
      omega
    clear h
    go_enter Try.func38, Try.ntmps38
    go_wp2
    have SX := Aside0.mk (heap_alloc_new w (.cells #[.int .i64 0, .int .i64 0, .int .i64 0] 23))
    refine bodyPost_ret (results_single rfl (.cell w.heap.size 23 #[.int .i64 0, .int .i64 0, .int .i64 0] (0, 0) _ rfl SX.out Try.underlying23 rfl info23 .nil)) rfl ?_
    exact ⟨by rw [E.out], below_alloc (Below.refl _ _) _⟩
theorem right_calls (what v : Int) (h : 0 ≤ what ∧ what ≤ 6) (w : World) :
    Calls Try.prog 39 #[.int .i64 what, .int .i64 v] w fun e w' => e = .returned (.bool (fits what v)) ∧ w = w' := by
  by_cases h6 : what = 6
  · subst h6
    have E := Aside0.mk (show fits 6 v = decide (-2147483648 ≤ v ∧ v ≤ 2147483647) from rfl)
    by_cases h1 : -2147483648 ≤ v
    · have d1 := decide_eq_true h1
      by_cases h2 : v ≤ 2147483647
      · have d2 := decide_eq_true h2
        have F := Aside0.mk (show decide (-2147483648 ≤ v ∧ v ≤ 2147483647) = true from decide_eq_true ⟨h1, h2⟩)
        clear h1 h2
        go_enter Try.func39, Try.ntmps39
        go_wp2
        go_ret
        exact ⟨by rw [E.out, F.out]; rfl, rfl⟩
      · have d2 := decide_eq_false h2
        have F := Aside0.mk (show decide (-2147483648 ≤ v ∧ v ≤ 2147483647) = false from decide_eq_false (fun h => h2 h.2))
        clear h1 h2
        go_enter Try.func39, Try.ntmps39
        go_wp2
        go_ret
        exact ⟨by rw [E.out, F.out]; rfl, rfl⟩
    · have d1 := decide_eq_false h1
      have F := Aside0.mk (show decide (-2147483648 ≤ v ∧ v ≤ 2147483647) = false from decide_eq_false (fun h => h1 h.1))
      clear h1
      go_enter Try.func39, Try.ntmps39
      go_wp2
      go_ret
      exact ⟨by rw [E.out, F.out]; rfl, rfl⟩
  · have E := Aside0.mk (show fits what v = decide (0 ≤ v ∧ v < most what) from if_neg h6)
    have t6 : (what == 6) = false := beq_eq_false_iff_ne.mpr h6
    have hp := pick6 what h.1 (by omega)
    obtain ⟨m, hm⟩ : ∃ m, most what = m := ⟨_, rfl⟩
    rw [hm] at hp E
    clear h h6 hm
    by_cases h1 : 0 ≤ v
    · have d1 := decide_eq_true h1
      by_cases h2 : v < m
      · have d2 := decide_eq_true h2
        have F := Aside0.mk (show decide (0 ≤ v ∧ v < m) = true from decide_eq_true ⟨h1, h2⟩)
        clear h1 h2
        go_enter Try.func39, Try.ntmps39
        go_wp2
        go_ret
        exact ⟨by rw [E.out, F.out]; rfl, rfl⟩
      · have d2 := decide_eq_false h2
        have F := Aside0.mk (show decide (0 ≤ v ∧ v < m) = false from decide_eq_false (fun h => h2 h.2))
        clear h1 h2
        go_enter Try.func39, Try.ntmps39
        go_wp2
        go_ret
        exact ⟨by rw [E.out, F.out]; rfl, rfl⟩
    · have d1 := decide_eq_false h1
      have F := Aside0.mk (show decide (0 ≤ v ∧ v < m) = false from decide_eq_false (fun h => h1 h.1))
      clear h1
      go_enter Try.func39, Try.ntmps39
      go_wp2
      go_ret
      exact ⟨by rw [E.out, F.out]; rfl, rfl⟩
theorem row3' {w : World} {b : Nat} {v0 v1 v2 : Value} {ty : TypeId} (h : w.heap[b]? = some (.cells #[v0, v1, v2] ty (0, 0))) :
    w.cell? ⟨b, 0, none⟩ = some v0 ∧ w.cell? ⟨b, 1, none⟩ = some v1 ∧ w.cell? ⟨b, 2, none⟩ = some v2 :=
  ⟨cell_of_row w b 0 _ ty (0, 0) h, cell_of_row w b 1 _ ty (0, 0) h, cell_of_row w b 2 _ ty (0, 0) h⟩

set_option maxHeartbeats 1000000 in
theorem RShape_calls (x : S26) (w : World) :
    Calls Try.prog 22 #[.agg #[.int .i64 x.f0, .int .i64 x.f1, .int .i64 x.f2, .int .i64 x.f3]] w fun e w' => e = .returned (.bool (shape x)) ∧ Below w.heap.size w w' := by
  have KR := Aside0.mk (kinds_range x.f0)
  have S0 := Aside0.mk (heap_alloc_new w (.cells #[.int .i64 x.f0, .int .i64 x.f1, .int .i64 x.f2, .int .i64 x.f3] 26))
  have HB0 := Aside0.mk (below_alloc (Below.refl w.heap.size w) (.cells #[.int .i64 x.f0, .int .i64 x.f1, .int .i64 x.f2, .int .i64 x.f3] 26))
  obtain ⟨r0, r1, r2, r3⟩ := ins_reads S0.out
  have ES := Aside0.mk (show shape x = (okOp x.f0 && (fits (kinds x.f0).1 x.f1 && (fits (kinds x.f0).2.1 x.f2 && fits (kinds x.f0).2.2 x.f3))) from rfl)
  obtain ⟨sh, hsh⟩ : ∃ sh, shape x = sh := ⟨_, rfl⟩
  rw [hsh] at ES
  rw [hsh]
  clear hsh
  go_enter Try.func22, Try.ntmps22
  go_wp2_with (fail)
  refine (rkinds_calls x.f0 _).mono ?_
  rintro e w1 ⟨rfl, hb1⟩
  obtain ⟨k0, hk0⟩ : ∃ k, (kinds x.f0).1 = k := ⟨_, rfl⟩
  obtain ⟨k1, hk1⟩ : ∃ k, (kinds x.f0).2.1 = k := ⟨_, rfl⟩
  obtain ⟨k2, hk2⟩ : ∃ k, (kinds x.f0).2.2 = k := ⟨_, rfl⟩
  rw [hk0, hk1, hk2] at ES KR
  rw [hk0, hk1, hk2]
  clear hk0 hk1 hk2
  have S2 := Aside0.mk (blk_alloc (blk_below S0.out hb1) (.cells #[.int .i64 k0, .int .i64 k1, .int .i64 k2] 23))
  have T2 := Aside0.mk (heap_alloc_new w1 (.cells #[.int .i64 k0, .int .i64 k1, .int .i64 k2] 23))
  have HB2 := Aside0.mk (below_alloc (below_step HB0.out hb1) (.cells #[.int .i64 k0, .int .i64 k1, .int .i64 k2] 23))
  clear hb1 r0 r1 r2 r3 S0 HB0
  obtain ⟨r0, r1, r2, r3⟩ := ins_reads S2.out
  obtain ⟨s0, s1, s2⟩ := row3' T2.out
  obtain ⟨ok, hok⟩ : ∃ ok, okOp x.f0 = ok := ⟨_, rfl⟩
  rw [hok] at ES
  by_cases h1 : 1 ≤ x.f0
  case neg =>
    have d1 : decide (1 ≤ x.f0) = false := decide_eq_false h1
    have E := Aside0.mk (show sh = false by rw [ES.out, ← hok, okOp, decide_eq_false (fun h => h1 h.1)]; rfl)
    clear h1 hok
    go_wp2_with (fail)
    go_ret
    exact ⟨by rw [E.out]; rfl, HB2.out⟩
  by_cases h2 : x.f0 ≤ 15
  case neg =>
    have d1 : decide (1 ≤ x.f0) = true := decide_eq_true h1
    have d2 : decide (x.f0 ≤ 15) = false := decide_eq_false h2
    have E := Aside0.mk (show sh = false by rw [ES.out, ← hok, okOp, decide_eq_false (fun h => h2 h.2)]; rfl)
    clear h1 h2 hok
    go_wp2_with (fail)
    go_ret
    exact ⟨by rw [E.out]; rfl, HB2.out⟩
  have d1 : decide (1 ≤ x.f0) = true := decide_eq_true h1
  have d2 : decide (x.f0 ≤ 15) = true := decide_eq_true h2
  have hok2 : ok = true := by rw [← hok, okOp]; exact decide_eq_true ⟨h1, h2⟩
  subst hok2
  clear hok h1 h2
  go_wp2_with (fail)
  refine (right_calls k0 x.f1 KR.out.1 _).mono ?_
  rintro e w3 ⟨rfl, rfl⟩
  obtain ⟨b0, hb0⟩ : ∃ b, fits k0 x.f1 = b := ⟨_, rfl⟩
  rw [hb0] at ES
  rw [hb0]
  clear hb0
  cases b0 with
  | false =>
    have E := Aside0.mk (show sh = false from ES.out)
    go_wp2_with (fail)
    go_ret
    exact ⟨by rw [E.out]; rfl, HB2.out⟩
  | true =>
    go_wp2_with (fail)
    refine (right_calls k1 x.f2 KR.out.2.1 _).mono ?_
    rintro e w3 ⟨rfl, rfl⟩
    obtain ⟨b1, hb1⟩ : ∃ b, fits k1 x.f2 = b := ⟨_, rfl⟩
    rw [hb1] at ES
    rw [hb1]
    clear hb1
    cases b1 with
    | false =>
      have E := Aside0.mk (show sh = false from ES.out)
      go_wp2_with (fail)
      go_ret
      exact ⟨by rw [E.out]; rfl, HB2.out⟩
    | true =>
      go_wp2_with (fail)
      refine (right_calls k2 x.f3 KR.out.2.2 _).mono ?_
      rintro e w3 ⟨rfl, rfl⟩
      obtain ⟨b2, hb2⟩ : ∃ b, fits k2 x.f3 = b := ⟨_, rfl⟩
      rw [hb2] at ES
      rw [hb2]
      clear hb2
      have E := Aside0.mk (show sh = b2 from ES.out)
      go_wp2_with (fail)
      go_ret
      exact ⟨by rw [E.out]; rfl, HB2.out⟩
end Go.Proofs.Ytmofaahhnokohaa.Code
