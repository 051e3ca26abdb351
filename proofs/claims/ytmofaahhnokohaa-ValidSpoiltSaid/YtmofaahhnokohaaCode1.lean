/- Walks: code.operands, code.fits, code.fields, code.Shape. -/
import Derived.Test.YtmofaahhnokohaaPCodeAllx0
import Derived.Test.YtmofaahhnokohaaCanon2
import Derived.Deep.QuietTactic
namespace Go.Proofs.Ytmofaahhnokohaa.Code
set_option linter.unusedSimpArgs false
set_option linter.unusedVariables false
open Go.RowKit Go.Proofs.YtmofaahhnokohaaW.PrintWords Go.Proofs.YtmofaahhnokohaaW.PrintLast Go.Proofs.YtmofaahhnokohaaW.PrintMore PCodeAll Go.Proofs.YtmofaahhnokohaaW.Canon
theorem max2_mx (k k' : IntKind) (x y : Int) : Builtin.max2 (.int k x) (.int k' y) = pure (.int k (mx x y)) := by simp only [Builtin.max2, gt_iff_lt, mx]
theorem min2_mn (k k' : IntKind) (x y : Int) : Builtin.min2 (.int k x) (.int k' y) = pure (.int k (mn x y)) := by simp only [Builtin.min2, mn]
attribute [local go_sem] max2_mx min2_mn max_two min_two max_three min_three max_four min_four
theorem ret_bool {a b : Bool} (h : a = b) : Ending.returned (.bool a) = Ending.returned (.bool b) := by rw [h]

/-- What an instruction has. -/
def kinds (op : Int) : Int × Int × Int :=
  if op = 1 then (1, 6, 0) else if op = 2 ∨ op = 3 ∨ op = 4 ∨ op = 5 ∨ op = 6 then (1, 1, 1) else if op = 7 then (5, 0, 0) else if op = 8 then (1, 5, 0) else if op = 9 then (2, 4, 1)
  else if op = 10 then (1, 2, 0) else if op = 11 then (3, 1, 0) else if op = 12 then (1, 3, 0) else if op = 13 then (2, 0, 0) else if op = 15 then (1, 0, 0) else (0, 0, 0)
def okOp (op : Int) : Bool := decide (1 ≤ op ∧ op ≤ 15)
def most (what : Int) : Int := if what = 0 then 1 else if what = 1 then 8 else if what = 2 then 4 else if what = 3 then 16 else if what = 4 then 12 else 40
def fits (what v : Int) : Bool := if what = 6 then decide (-2147483648 ≤ v ∧ v ≤ 2147483647) else decide (0 ≤ v ∧ v < most what)
def shape (x : S26) : Bool := okOp x.f0 && (fits (kinds x.f0).1 x.f1 && (fits (kinds x.f0).2.1 x.f2 && fits (kinds x.f0).2.2 x.f3))
theorem kinds_range (op : Int) : (0 ≤ (kinds op).1 ∧ (kinds op).1 ≤ 6) ∧ (0 ≤ (kinds op).2.1 ∧ (kinds op).2.1 ≤ 6) ∧ (0 ≤ (kinds op).2.2 ∧ (kinds op).2.2 ≤ 6) := by
  unfold kinds
  (repeat' split) <;> decide
theorem info23 : (Try.prog.info? 23).map (·.size) = some 3 := by kernel_rfl

theorem operands_calls (op : Int) (w : World) :
    Calls Try.prog 27 #[.int .i64 op] w fun e w' => e = .returned (.tuple #[.agg #[.int .i64 (kinds op).1, .int .i64 (kinds op).2.1, .int .i64 (kinds op).2.2], .bool (okOp op)]) ∧ Below w.heap.size w w' := by
  by_cases h : 1 ≤ op ∧ op ≤ 15
  · have hc : op = 1 ∨ op = 2 ∨ op = 3 ∨ op = 4 ∨ op = 5 ∨ op = 6 ∨ op = 7 ∨ op = 8 ∨ op = 9 ∨ op = 10 ∨ op = 11 ∨ op = 12 ∨ op = 13 ∨ op = 14 ∨ op = 15 := by omega
    clear h
    rcases hc with rfl | rfl | rfl | rfl | rfl | rfl | rfl | rfl | rfl | rfl | rfl | rfl | rfl | rfl | rfl
    · go_enter Try.func27, Try.ntmps27
      go_wp2
      refine bodyPost_ret (results_ct rfl _ _ w.heap.size 23 _ (0, 0) _ rfl (heap_alloc_new _ _) Try.underlying23 rfl info23) rfl ?_
      exact ⟨rfl, below_alloc (Below.refl _ _) _⟩
    · go_enter Try.func27, Try.ntmps27
      go_wp2
      refine bodyPost_ret (results_ct rfl _ _ w.heap.size 23 _ (0, 0) _ rfl (heap_alloc_new _ _) Try.underlying23 rfl info23) rfl ?_
      exact ⟨rfl, below_alloc (Below.refl _ _) _⟩
    · go_enter Try.func27, Try.ntmps27
      go_wp2
      refine bodyPost_ret (results_ct rfl _ _ w.heap.size 23 _ (0, 0) _ rfl (heap_alloc_new _ _) Try.underlying23 rfl info23) rfl ?_
      exact ⟨rfl, below_alloc (Below.refl _ _) _⟩
    · go_enter Try.func27, Try.ntmps27
      go_wp2
      refine bodyPost_ret (results_ct rfl _ _ w.heap.size 23 _ (0, 0) _ rfl (heap_alloc_new _ _) Try.underlying23 rfl info23) rfl ?_
      exact ⟨rfl, below_alloc (Below.refl _ _) _⟩
    · go_enter Try.func27, Try.ntmps27
      go_wp2
      refine bodyPost_ret (results_ct rfl _ _ w.heap.size 23 _ (0, 0) _ rfl (heap_alloc_new _ _) Try.underlying23 rfl info23) rfl ?_
      exact ⟨rfl, below_alloc (Below.refl _ _) _⟩
    · go_enter Try.func27, Try.ntmps27
      go_wp2
      refine bodyPost_ret (results_ct rfl _ _ w.heap.size 23 _ (0, 0) _ rfl (heap_alloc_new _ _) Try.underlying23 rfl info23) rfl ?_
      exact ⟨rfl, below_alloc (Below.refl _ _) _⟩
    · go_enter Try.func27, Try.ntmps27
      go_wp2
      refine bodyPost_ret (results_ct rfl _ _ w.heap.size 23 _ (0, 0) _ rfl (heap_alloc_new _ _) Try.underlying23 rfl info23) rfl ?_
      exact ⟨rfl, below_alloc (Below.refl _ _) _⟩
    · go_enter Try.func27, Try.ntmps27
      go_wp2
      refine bodyPost_ret (results_ct rfl _ _ w.heap.size 23 _ (0, 0) _ rfl (heap_alloc_new _ _) Try.underlying23 rfl info23) rfl ?_
      exact ⟨rfl, below_alloc (Below.refl _ _) _⟩
    · go_enter Try.func27, Try.ntmps27
      go_wp2
      refine bodyPost_ret (results_ct rfl _ _ w.heap.size 23 _ (0, 0) _ rfl (heap_alloc_new _ _) Try.underlying23 rfl info23) rfl ?_
      exact ⟨rfl, below_alloc (Below.refl _ _) _⟩
    · go_enter Try.func27, Try.ntmps27
      go_wp2
      refine bodyPost_ret (results_ct rfl _ _ w.heap.size 23 _ (0, 0) _ rfl (heap_alloc_new _ _) Try.underlying23 rfl info23) rfl ?_
      exact ⟨rfl, below_alloc (Below.refl _ _) _⟩
    · go_enter Try.func27, Try.ntmps27
      go_wp2
      refine bodyPost_ret (results_ct rfl _ _ w.heap.size 23 _ (0, 0) _ rfl (heap_alloc_new _ _) Try.underlying23 rfl info23) rfl ?_
      exact ⟨rfl, below_alloc (Below.refl _ _) _⟩
    · go_enter Try.func27, Try.ntmps27
      go_wp2
      refine bodyPost_ret (results_ct rfl _ _ w.heap.size 23 _ (0, 0) _ rfl (heap_alloc_new _ _) Try.underlying23 rfl info23) rfl ?_
      exact ⟨rfl, below_alloc (Below.refl _ _) _⟩
    · go_enter Try.func27, Try.ntmps27
      go_wp2
      refine bodyPost_ret (results_ct rfl _ _ w.heap.size 23 _ (0, 0) _ rfl (heap_alloc_new _ _) Try.underlying23 rfl info23) rfl ?_
      exact ⟨rfl, below_alloc (Below.refl _ _) _⟩
    · go_enter Try.func27, Try.ntmps27
      go_wp2
      refine bodyPost_ret (results_ct rfl _ _ w.heap.size 23 _ (0, 0) _ rfl (heap_alloc_new _ _) Try.underlying23 rfl info23) rfl ?_
      exact ⟨rfl, below_alloc (Below.refl _ _) _⟩
    · go_enter Try.func27, Try.ntmps27
      go_wp2
      refine bodyPost_ret (results_ct rfl _ _ w.heap.size 23 _ (0, 0) _ rfl (heap_alloc_new _ _) Try.underlying23 rfl info23) rfl ?_
      exact ⟨rfl, below_alloc (Below.refl _ _) _⟩
  · have E := Aside0.mk (show kinds op = (0, 0, 0) ∧ okOp op = false by
      refine ⟨?_, decide_eq_false h⟩
      unfold kinds
      rw [if_neg (by omega), if_neg (by omega), if_neg (by omega), if_neg (by omega), if_neg (by omega), if_neg (by omega), if_neg (by omega), if_neg (by omega), if_neg (by omega), if_neg (by omega)])
    obtain ⟨t1, t2, t3, t4, t5, t6, t7, t8, t9, t10, t11, t12, t13, t14, t15⟩ : (op == 1) = false ∧ (op == 2) = false ∧ (op == 3) = false ∧ (op == 4) = false ∧ (op == 5) = false ∧ (op == 6) = false ∧ (op == 7) = false ∧ (op == 8) = false ∧ (op == 9) = false ∧ (op == 10) = false ∧ (op == 11) = false ∧ (op == 12) = false ∧ (op == 13) = false ∧ (op == 14) = false ∧ (op == 15) = false := by
      simp only [beq_eq_false_iff_ne, ne_eq]
      omega
    clear h
    go_enter Try.func27, Try.ntmps27
    go_wp2
    refine bodyPost_ret (results_ct rfl _ _ w.heap.size 23 _ (0, 0) _ rfl (heap_alloc_new _ _) Try.underlying23 rfl info23) rfl ?_
    exact ⟨by rw [E.out.1, E.out.2]; rfl, below_alloc (Below.refl _ _) _⟩
/-- One operand. -/
theorem pick6 (k : Int) (h0 : 0 ≤ k) (h1 : k ≤ 5) (W : World) :
    (Instr.index 81 (.agg #[.int .i64 1, .int .i64 8, .int .i64 4, .int .i64 16, .int .i64 12, .int .i64 40]) (.int .i64 k)).run Try.prog W = .ok (.int .i64 (most k)) W := by
  have hk : k = 0 ∨ k = 1 ∨ k = 2 ∨ k = 3 ∨ k = 4 ∨ k = 5 := by omega
  rcases hk with rfl | rfl | rfl | rfl | rfl | rfl <;> rfl
theorem fits_calls (what v : Int) (h : 0 ≤ what ∧ what ≤ 6) (w : World) :
    Calls Try.prog 29 #[.int .i64 what, .int .i64 v] w fun e w' => e = .returned (.bool (fits what v)) ∧ w = w' := by
  by_cases h6 : what = 6
  · subst h6
    have E := Aside0.mk (show fits 6 v = decide (-2147483648 ≤ v ∧ v ≤ 2147483647) from rfl)
    by_cases h1 : -2147483648 ≤ v
    · have d1 := decide_eq_true h1
      by_cases h2 : v ≤ 2147483647
      · have d2 := decide_eq_true h2
        have F := Aside0.mk (show decide (-2147483648 ≤ v ∧ v ≤ 2147483647) = true from decide_eq_true ⟨h1, h2⟩)
        clear h1 h2
        go_enter Try.func29, Try.ntmps29
        go_wp2
        go_ret
        exact ⟨by rw [E.out, F.out]; rfl, rfl⟩
      · have d2 := decide_eq_false h2
        have F := Aside0.mk (show decide (-2147483648 ≤ v ∧ v ≤ 2147483647) = false from decide_eq_false (fun h => h2 h.2))
        clear h1 h2
        go_enter Try.func29, Try.ntmps29
        go_wp2
        go_ret
        exact ⟨by rw [E.out, F.out]; rfl, rfl⟩
    · have d1 := decide_eq_false h1
      have F := Aside0.mk (show decide (-2147483648 ≤ v ∧ v ≤ 2147483647) = false from decide_eq_false (fun h => h1 h.1))
      clear h1
      go_enter Try.func29, Try.ntmps29
      go_wp2
      go_ret
      exact ⟨by rw [E.out, F.out]; rfl, rfl⟩
  · have E := Aside0.mk (show fits what v = decide (0 ≤ v ∧ v < most what) from if_neg h6)
    have t6 : (what == 6) = false := beq_eq_false_iff_ne.mpr h6
    have hp := pick6 what h.1 (by omega)
    obtain ⟨m, hm⟩ : ∃ m, most what = m := ⟨_, rfl⟩
    rw [hm] at hp E
    clear h h6 hm
    by_cases h1 : 0 ≤ v
    · have d1 := decide_eq_true h1
      by_cases h2 : v < m
      · have d2 := decide_eq_true h2
        have F := Aside0.mk (show decide (0 ≤ v ∧ v < m) = true from decide_eq_true ⟨h1, h2⟩)
        clear h1 h2
        go_enter Try.func29, Try.ntmps29
        go_wp2
        go_ret
        exact ⟨by rw [E.out, F.out]; rfl, rfl⟩
      · have d2 := decide_eq_false h2
        have F := Aside0.mk (show decide (0 ≤ v ∧ v < m) = false from decide_eq_false (fun h => h2 h.2))
        clear h1 h2
        go_enter Try.func29, Try.ntmps29
        go_wp2
        go_ret
        exact ⟨by rw [E.out, F.out]; rfl, rfl⟩
    · have d1 := decide_eq_false h1
      have F := Aside0.mk (show decide (0 ≤ v ∧ v < m) = false from decide_eq_false (fun h => h1 h.1))
      clear h1
      go_enter Try.func29, Try.ntmps29
      go_wp2
      go_ret
      exact ⟨by rw [E.out, F.out]; rfl, rfl⟩
theorem below_setRow {w0 w : World} {n g : Nat} (h : Below n w0 w) (hg : n ≤ g) (cs : Array Value) : Below n w0 (w.setRow g cs) :=
  h.trans ⟨rfl, rfl, rfl, by simp, fun k hk => setRow_other w g k cs (by omega)⟩
theorem info57 : (Try.prog.info? 57).map (·.size) = some 3 := by kernel_rfl
theorem fields_calls (b : Nat) (w : World) :
    Calls Try.prog 28 #[.pointer (some ⟨b, 0, none⟩)] w fun e w' => e = .returned (.agg #[.pointer (some ⟨b, 1, none⟩), .pointer (some ⟨b, 2, none⟩), .pointer (some ⟨b, 3, none⟩)]) ∧ Below w.heap.size w w' := by
  go_enter Try.func28, Try.ntmps28
  go_wp2_with (fail)
  have S0 := Aside0.mk (heap_alloc_new w (.cells #[.pointer none, .pointer none, .pointer none] 57))
  have HB0 := Aside0.mk (below_alloc (Below.refl w.heap.size w) (.cells #[.pointer none, .pointer none, .pointer none] 57))
  revert S0 HB0
  generalize w.alloc (.cells #[.pointer none, .pointer none, .pointer none] 57) = w0
  intro S0 HB0
  refine canon [(0,1),(1,1),(2,1),(3,1),(4,1),(5,1),(6,1),(7,1),(8,1),(9,1),(10,3)] [10] (fun _ => True) (by kernel_rfl) rfl rfl (by kernel_rfl) (by intro c d v a w h; cases d <;> exact h) ?_
  intro w1 hb1 hh1
  have S1 := Aside0.mk (show w1.heap[w.heap.size]? = some (.cells #[.pointer none, .pointer none, .pointer none] 57 (0, 0)) by rw [hh1.out]; exact S0.out)
  have HB1 := Aside0.mk (below_step HB0.out hb1)
  clear hb1 hh1 S0 HB0
  repeat (first | (refine c_pure rfl rfl (by rfl) (v := ?_) ?_ (a' := ?_) ?_ ?_; rotate_left; (focus (intro w'; go_simp; with_reducible rfl)); rotate_left; (focus ((try simp only [Act.put, List.setIfInBounds_toArray, List.set_cons_zero, List.set_cons_succ, i64_w, i32_w]); rfl))) | (refine c_off rfl rfl (by rfl) (a' := ?_) ?_ ?_; rotate_left; (focus ((try simp only [Act.put, List.setIfInBounds_toArray, List.set_cons_zero, List.set_cons_succ, i64_w, i32_w]); rfl))))
  refine c_last rfl (fun K hK => ?_)
  rw [if_pos (by rfl)]
  refine wp_store_row 57 (.tmp 2) (.tmp 12) rfl w.heap.size #[.pointer (some ⟨b, 1, none⟩), .pointer (some ⟨b, 2, none⟩), .pointer (some ⟨b, 3, none⟩)] rfl rfl 57 _ S1.out info57 rfl (by simp [Value.oneCell']) ?_
  refine hK _ _ ?_
  clear hK K
  have S2 := Aside0.mk (setRow_heap w1 w.heap.size _ #[.pointer (some ⟨b, 1, none⟩), .pointer (some ⟨b, 2, none⟩), .pointer (some ⟨b, 3, none⟩)] 57 (0, 0) S1.out)
  have HB2 := Aside0.mk (below_setRow HB1.out (Nat.le_refl _) #[.pointer (some ⟨b, 1, none⟩), .pointer (some ⟨b, 2, none⟩), .pointer (some ⟨b, 3, none⟩)])
  clear S1 HB1
  (refine c_norm (a' := ?_) ?_ ?_; rotate_left; (focus ((try simp only [Act.put, List.setIfInBounds_toArray, List.set_cons_zero, List.set_cons_succ, i64_w, i32_w]); rfl)))
  refine c_done ?_
  go_wp2_with (fail)
  refine bodyPost_ret (results_single rfl (.cell w.heap.size 57 _ (0, 0) _ rfl S2.out Try.underlying57 rfl info57 .nil)) rfl ?_
  exact ⟨rfl, HB2.out⟩
/-- The three operands, one by one. -/
def fitsTo (x : S26) (k : Nat) : Bool :=
  match k with
  | 0 => okOp x.f0
  | 1 => okOp x.f0 && fits (kinds x.f0).1 x.f1
  | 2 => (okOp x.f0 && fits (kinds x.f0).1 x.f1) && fits (kinds x.f0).2.1 x.f2
  | _ => ((okOp x.f0 && fits (kinds x.f0).1 x.f1) && fits (kinds x.f0).2.1 x.f2) && fits (kinds x.f0).2.2 x.f3
theorem fitsTo3 (x : S26) : fitsTo x 3 = shape x := by
  simp only [fitsTo, shape, Bool.and_assoc]
theorem fits_same (what v : Int) (h : 0 ≤ what ∧ what ≤ 6) (w : World) :
    Calls Try.prog 29 #[.int .i64 what, .int .i64 v] w fun e w' => e = .returned (.bool (fits what v)) ∧ w' = w :=
  (fits_calls what v h w).mono fun _ _ h => ⟨h.1, h.2.symm⟩
theorem idx57 (p0 p1 p2 : Value) (W : World) :
    (Instr.index 57 (.agg #[p0, p1, p2]) (.int .i64 0)).run Try.prog W = .ok p0 W ∧ (Instr.index 57 (.agg #[p0, p1, p2]) (.int .i64 1)).run Try.prog W = .ok p1 W ∧ (Instr.index 57 (.agg #[p0, p1, p2]) (.int .i64 2)).run Try.prog W = .ok p2 W := ⟨rfl, rfl, rfl⟩

theorem info26 : (Try.prog.info? 26).map (·.size) = some 4 := by kernel_rfl
set_option maxHeartbeats 1000000 in
theorem Shape_calls (x : S26) (w : World) :
    Calls Try.prog 12 #[.agg #[.int .i64 x.f0, .int .i64 x.f1, .int .i64 x.f2, .int .i64 x.f3]] w fun e w' => e = .returned (.bool (shape x)) ∧ Below w.heap.size w w' := by
  have KR := Aside0.mk (kinds_range x.f0)
  have E3 := Aside0.mk (fitsTo3 x)
  have S0 := Aside0.mk (heap_alloc_new w (.cells #[.int .i64 x.f0, .int .i64 x.f1, .int .i64 x.f2, .int .i64 x.f3] 26))
  have HB0 := Aside0.mk (below_alloc (Below.refl w.heap.size w) (.cells #[.int .i64 x.f0, .int .i64 x.f1, .int .i64 x.f2, .int .i64 x.f3] 26))
  go_enter Try.func12, Try.ntmps12
  go_wp2_with (fail)
  refine (operands_calls x.f0 _).mono ?_
  rintro e w1 ⟨rfl, hb1⟩
  have S1 := Aside0.mk (blk_below S0.out hb1)
  have HB1 := Aside0.mk (below_step HB0.out hb1)
  have hs1 := blk_lt S1.out
  clear S0 HB0 hb1
  go_wp2_with (fail)
  have S2 := Aside0.mk (blk_alloc S1.out (.cells #[.int .i64 (kinds x.f0).1, .int .i64 (kinds x.f0).2.1, .int .i64 (kinds x.f0).2.2] 23))
  have N2 := Aside0.mk (heap_alloc_new w1 (.cells #[.int .i64 (kinds x.f0).1, .int .i64 (kinds x.f0).2.1, .int .i64 (kinds x.f0).2.2] 23))
  have HB2 := Aside0.mk (below_alloc HB1.out (.cells #[.int .i64 (kinds x.f0).1, .int .i64 (kinds x.f0).2.1, .int .i64 (kinds x.f0).2.2] 23))
  clear S1 HB1
  revert S2 N2 HB2
  generalize w1.alloc (.cells #[.int .i64 (kinds x.f0).1, .int .i64 (kinds x.f0).2.1, .int .i64 (kinds x.f0).2.2] 23) = w2
  generalize w1.heap.size = b1 at *
  intro S2 N2 HB2
  refine (fields_calls w.heap.size _).mono ?_
  rintro e w3 ⟨rfl, hb3⟩
  have S3 := Aside0.mk (blk_below S2.out hb3)
  have N3 := Aside0.mk (blk_below N2.out hb3)
  have HB3 := Aside0.mk (below_step HB2.out hb3)
  clear S2 N2 HB2 hb3
  go_wp2_with (fail)
  go_loopw [4, 14] (fun u4 u14 w' => ∃ k : Nat, u14 = .int .i64 k ∧ k ≤ 3 ∧ u4 = .bool (fitsTo x k) ∧ Aside0 (Below w3.heap.size w3 w')) (fun _ u14 _ => 3 - (intOf u14).toNat)
  case atStart => exact ⟨0, rfl, by omega, rfl, ⟨Below.refl _ _⟩⟩
  case round =>
    obtain ⟨k, rfl, hk, rfl, HJ⟩ := hrel
    have S4 := Aside0.mk (blk_below S3.out HJ.out)
    have N4 := Aside0.mk (blk_below N3.out HJ.out)
    have hc : k = 0 ∨ k = 1 ∨ k = 2 ∨ k = 3 := by omega
    rcases hc with rfl | rfl | rfl | rfl
    · have hx := fun W => idx57 (.pointer (some ⟨w.heap.size, 1, none⟩)) (.pointer (some ⟨w.heap.size, 2, none⟩)) (.pointer (some ⟨w.heap.size, 3, none⟩)) W
      have hx0 := fun W => (hx W).1
      have hx1 := fun W => (hx W).2.1
      have hx2 := fun W => (hx W).2.2
      clear hx
      obtain ⟨kk, hkk⟩ : ∃ kk, (kinds x.f0).1 = kk := ⟨_, rfl⟩
      have hc0 : wr.cell? ⟨b1, 0, none⟩ = some (.int .i64 kk) := by rw [← hkk]; exact cell_of_row wr b1 0 _ 23 (0, 0) N4.out
      have hc1 : wr.cell? ⟨w.heap.size, 0 + 1, none⟩ = some (.int .i64 x.f1) := cell_of_row wr w.heap.size (0 + 1) _ 26 (0, 0) S4.out
      have hr : 0 ≤ kk ∧ kk ≤ 6 := by rw [← hkk]; exact KR.out.1
      have hst : fitsTo x (0 + 1) = (fitsTo x 0 && fits kk x.f1) := by rw [← hkk]; rfl
      have HST := Aside0.mk hst
      clear hst hkk
      rcases hb : fitsTo x 0
      · go_wp2_with (fail)
        go_quiet (fail)
        try go_wp2
        exact ⟨⟨0 + 1, rfl, by omega, by rw [HST.out, hb]; rfl, ⟨pw_below_drewN HJ.out _⟩⟩, by simp [intOf]⟩
      · go_wp2_with (fail)
        go_quiet (first | (go_at_call 29; refine Calls.quiet_of_same (fits_same _ _ hr _)))
        try go_wp2
        exact ⟨⟨0 + 1, rfl, by omega, by rw [HST.out, hb]; rfl, ⟨pw_below_drewN HJ.out _⟩⟩, by simp [intOf]⟩
    · have hx := fun W => idx57 (.pointer (some ⟨w.heap.size, 1, none⟩)) (.pointer (some ⟨w.heap.size, 2, none⟩)) (.pointer (some ⟨w.heap.size, 3, none⟩)) W
      have hx0 := fun W => (hx W).1
      have hx1 := fun W => (hx W).2.1
      have hx2 := fun W => (hx W).2.2
      clear hx
      obtain ⟨kk, hkk⟩ : ∃ kk, (kinds x.f0).2.1 = kk := ⟨_, rfl⟩
      have hc0 : wr.cell? ⟨b1, 1, none⟩ = some (.int .i64 kk) := by rw [← hkk]; exact cell_of_row wr b1 1 _ 23 (0, 0) N4.out
      have hc1 : wr.cell? ⟨w.heap.size, 1 + 1, none⟩ = some (.int .i64 x.f2) := cell_of_row wr w.heap.size (1 + 1) _ 26 (0, 0) S4.out
      have hr : 0 ≤ kk ∧ kk ≤ 6 := by rw [← hkk]; exact KR.out.2.1
      have hst : fitsTo x (1 + 1) = (fitsTo x 1 && fits kk x.f2) := by rw [← hkk]; rfl
      have HST := Aside0.mk hst
      clear hst hkk
      rcases hb : fitsTo x 1
      · go_wp2_with (fail)
        go_quiet (fail)
        try go_wp2
        exact ⟨⟨1 + 1, rfl, by omega, by rw [HST.out, hb]; rfl, ⟨pw_below_drewN HJ.out _⟩⟩, by simp [intOf]⟩
      · go_wp2_with (fail)
        go_quiet (first | (go_at_call 29; refine Calls.quiet_of_same (fits_same _ _ hr _)))
        try go_wp2
        exact ⟨⟨1 + 1, rfl, by omega, by rw [HST.out, hb]; rfl, ⟨pw_below_drewN HJ.out _⟩⟩, by simp [intOf]⟩
    · have hx := fun W => idx57 (.pointer (some ⟨w.heap.size, 1, none⟩)) (.pointer (some ⟨w.heap.size, 2, none⟩)) (.pointer (some ⟨w.heap.size, 3, none⟩)) W
      have hx0 := fun W => (hx W).1
      have hx1 := fun W => (hx W).2.1
      have hx2 := fun W => (hx W).2.2
      clear hx
      obtain ⟨kk, hkk⟩ : ∃ kk, (kinds x.f0).2.2 = kk := ⟨_, rfl⟩
      have hc0 : wr.cell? ⟨b1, 2, none⟩ = some (.int .i64 kk) := by rw [← hkk]; exact cell_of_row wr b1 2 _ 23 (0, 0) N4.out
      have hc1 : wr.cell? ⟨w.heap.size, 2 + 1, none⟩ = some (.int .i64 x.f3) := cell_of_row wr w.heap.size (2 + 1) _ 26 (0, 0) S4.out
      have hr : 0 ≤ kk ∧ kk ≤ 6 := by rw [← hkk]; exact KR.out.2.2
      have hst : fitsTo x (2 + 1) = (fitsTo x 2 && fits kk x.f3) := by rw [← hkk]; rfl
      have HST := Aside0.mk hst
      clear hst hkk
      rcases hb : fitsTo x 2
      · go_wp2_with (fail)
        go_quiet (fail)
        try go_wp2
        exact ⟨⟨2 + 1, rfl, by omega, by rw [HST.out, hb]; rfl, ⟨pw_below_drewN HJ.out _⟩⟩, by simp [intOf]⟩
      · go_wp2_with (fail)
        go_quiet (first | (go_at_call 29; refine Calls.quiet_of_same (fits_same _ _ hr _)))
        try go_wp2
        exact ⟨⟨2 + 1, rfl, by omega, by rw [HST.out, hb]; rfl, ⟨pw_below_drewN HJ.out _⟩⟩, by simp [intOf]⟩
    · rw [E3.out]
      go_wp2_with (fail)
      go_ret
      exact ⟨rfl, below_step HB3.out HJ.out⟩
end Go.Proofs.Ytmofaahhnokohaa.Code
