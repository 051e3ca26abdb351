/- The walk of LexWrong. -/
import Derived.Test.YthnmaaoafogbiaaLex7
namespace Go.Proofs.Ythnmaaoafogbiaa.LexWrong
set_option linter.unusedSimpArgs false
set_option linter.unusedVariables false
open Go.RowKit Go.Proofs.YthnmaaoafogbiaaW.PrintWords Go.Proofs.YthnmaaoafogbiaaW.PrintLast Go.Proofs.YthnmaaoafogbiaaW.PrintMore PLexAll Go.Proofs.YthnmaaoafogbiaaW.Canon Lex
attribute [local go_sem] max2_mx min2_mn max_two min_two max_three min_three max_four min_four



theorem conv1 (c : UInt8) (r : Int) (hr : r = c.toNat) (W : World) : (convert 40 9 (.slice (some ⟨W.heap.size, 0, none⟩) 1 1)).run Try.prog (W.alloc (.cells #[.int .u8 r] 5)) = .ok (.string (bs [c])) (W.alloc (.cells #[.int .u8 r] 5)) := by
  have h : ReadsInt (W.alloc (.cells #[.int .u8 r] 5)) .u8 (some ⟨W.heap.size, 0, none⟩) 1 [r] :=
    ⟨rfl, by omega, fun _ => ⟨_, rfl, fun j hj => by
      obtain rfl : j = 0 := by omega
      have hn : (W.alloc (.cells #[.int .u8 r] 5)).heap[W.heap.size]? = some (.cells #[.int .u8 r] 5 (0, 0)) := heap_alloc_new _ _
      exact cell_of_row _ W.heap.size 0 _ 5 (0, 0) hn⟩⟩
  rw [string_of_reads Try.underlying40 Try.underlying5 Try.underlying9 h]
  have e : strOfNums [r] = bs [c] := by
    rw [hr]
    show (⟨#[UInt8.ofNat ((c.toNat : Int)).toNat]⟩ : ByteArray) = ⟨#[c]⟩
    rw [Int.toNat_natCast, UInt8.ofNat_toNat]
  rw [e]
theorem strOfNums_size (l : List Int) : (strOfNums l).size = l.length := by simp [strOfNums, ByteArray.size]
theorem all_big (s : ByteArray) (h : 8192 < s.size) : allT s = .inl (0, 2) := if_pos h
theorem info5 : (Try.prog.info? 5).map (fun i => (i.zero, i.size, i.bytes)) = some (some (.int .u8 0), 1, 1) := by kernel_rfl
theorem big_string {w : World} {base : Nat} {ok : Nat → Prop} {v : Value} (ho : (Kd.int .u8).R 5 w base ok v (List.replicate (8193 : Int).toNat 0)) :
    ∃ Z : ByteArray, 8192 < Z.size ∧ (convert 40 9 v).run Try.prog w = .ok (.string Z) w := by
  obtain ⟨A, c, rfl, _, hC⟩ := Kd.R_reads ho
  exact ⟨_, by rw [strOfNums_size, List.length_replicate]; decide, Kd.C_string Try.underlying40 Try.underlying5 Try.underlying9 hC⟩
theorem cls (r : Int) (h0 : 0 ≤ r) : (97 ≤ r ∧ r ≤ 122) ∨ (48 ≤ r ∧ r ≤ 57) ∨ r = 32 ∨ r = 9 ∨ r = 13 ∨ r = 10 ∨ r = 35 ∨ r = 58 ∨ r = 44 ∨ (okB r = false ∧ ((r == 32) = false ∧ (r == 9) = false ∧ (r == 13) = false ∧ (r == 10) = false ∧ (r == 35) = false ∧ (r == 58) = false ∧ (r == 44) = false) ∧ (r < 48 ∨ (57 < r ∧ r < 97) ∨ 122 < r)) := by
  by_cases h : okB r = true
  · simp only [okB, Bool.or_eq_true, decide_eq_true_eq] at h
    omega
  · have h' := h
    simp only [okB, Bool.or_eq_true, decide_eq_true_eq] at h
    refine .inr (.inr (.inr (.inr (.inr (.inr (.inr (.inr (.inr ⟨Bool.eq_false_iff.mpr h', ?_, by omega⟩))))))))
    simp only [beq_eq_false_iff_ne, ne_eq]
    omega
theorem okB_true (r : Int) (h : (97 ≤ r ∧ r ≤ 122) ∨ (48 ≤ r ∧ r ≤ 57) ∨ r = 32 ∨ r = 9 ∨ r = 13 ∨ r = 10 ∨ r = 35 ∨ r = 58 ∨ r = 44) : okB r = true := by
  simp only [okB, Bool.or_eq_true, decide_eq_true_eq]
  omega
set_option maxHeartbeats 1000000 in
theorem LexWrong_calls (c : UInt8) (r : Int) (hr : r = c.toNat) (lines : Int) (w : World) :
    Calls Try.prog 7 #[.int .u8 r, .int .i64 lines] w fun e w' => e = .returned (.bool true) ∧ Below w.heap.size w w' := by
  have h0 : 0 ≤ r := by omega
  have h1 : r ≤ 255 := by have := c.toNat_lt; omega
  have HR := Aside0.mk hr
  clear hr
  go_enter Try.func7, Try.ntmps7
  go_wp2_with (fail)
  refine (Place_calls _ _ _ (by omega) (by omega)).mono ?_
  rintro e w' ⟨rfl, rfl⟩
  have m0 : 0 ≤ lines % 30 := by omega
  have m1 : lines % 30 < 30 := by omega
  revert m0 m1
  generalize lines % 30 = n
  intro m0 m1
  obtain ⟨N, rfl⟩ : ∃ N : Nat, n = N := ⟨n.toNat, by omega⟩
  go_wp2
  go_loopw [6, 7] (fun v u w' => ∃ i : Nat, v = .string (bs (aList i)) ∧ u = .int .i64 i ∧ i ≤ N ∧ w' = w) (fun _ u _ => N - (intOf u).toNat)
  case atStart => exact ⟨0, rfl, rfl, by omega, rfl⟩
  case round =>
    obtain ⟨i, rfl, rfl, hi, rfl⟩ := hrel
    by_cases hlt : i < N
    · have e1 : (bs (aList i)).size = 4 * i := by rw [bs_size, aList_len]
      go_wp2
      exact ⟨⟨i + 1, by rw [aList, ← bs_append]; rfl, by go_num, by omega, trivial⟩, by simp [intOf]; omega⟩
    · obtain rfl : i = N := by omega
      have hcv := conv1 c r HR.out
      have e1 : (bs (aList i)).size = 4 * i := by rw [bs_size, aList_len]
      have e2 : (bs [c]).size = 1 := rfl
      have e3 : (⟨#[35, 32]⟩ : ByteArray).size = 2 := rfl
      have s1 := wrong_all i (by omega) c
      rw [← HR.out] at s1
      have S1 := Aside0.mk s1
      have S2 := Aside0.mk (rem_all i (by omega) c)
      clear s1
      rcases cls r h0 with h | h | h | h | h | h | h | h | h | h
      · obtain ⟨a1, a2⟩ := h
        obtain ⟨l, hl⟩ := S1.out.1 (okB_true r (by omega))
        have HL := Aside0.mk hl
        clear hl
        go_wp2_with (fail)
        refine (All_calls _ _).mono ?_
        rintro e w1 ⟨hB1, hp⟩
        rw [bs_append, HL.out] at hp
        obtain ⟨v, rfl, hR, _⟩ := hp
        have HB1 := Aside0.mk (below_step (below_alloc (Below.refl wr.heap.size wr) _) hB1)
        obtain ⟨A1, n1, c1, rfl⟩ := Lex.slice_of_R hR
        clear hB1 hR HL
        go_wp2_with (fail)
        refine (All_calls _ _).mono ?_
        rintro e w2 ⟨hB2, hp⟩
        rw [show bs (aList i) ++ ⟨#[35, 32]⟩ ++ bs [c] = bs (aList i ++ [35, 32, c]) by rw [show (⟨#[35, 32]⟩ : ByteArray) = bs [35, 32] from rfl, bs_append, bs_append, List.append_assoc]; rfl] at hp
        obtain ⟨l2, hl2⟩ := S2.out
        rw [hl2] at hp
        obtain ⟨v2, rfl, hR2, _⟩ := hp
        have HB2 := Aside0.mk (below_step (below_alloc HB1.out _) hB2)
        obtain ⟨A2, n2, c2, rfl⟩ := Lex.slice_of_R hR2
        clear hB2 hR2 hl2 HB1
        go_wp2_with ((with_reducible refine gate_dst (N := 91) rfl ?_); refine Kd.R_make (Kd.int .u8) _ 5 rfl (N := 91) rfl 40 _ _ rfl (8193 : Int) rfl rfl Try.underlying40 (.int .u8 0) 1 info5 rfl (by decide) (by omega) 0 (ok := fun _ => True) (okp := fun _ => False) rfl (fun _ hk => hk.elim) trivial (by omega) (by decide) (Below.refl _ _) (Nat.le_refl _) ?_; intro v3 w3 ho hb hg_ hnew_; clear hg_ hnew_; obtain ⟨Z, hZ, hcv3⟩ := big_string ho; have HZ := Aside0.mk hZ; have HB3 := Aside0.mk (below_step HB2.out hb); clear ho hb hZ HB2)
        refine (All_calls _ _).mono ?_
        rintro e w4 ⟨hB4, hp⟩
        rw [all_big Z HZ.out] at hp
        replace hp : e = .returned (.tuple #[.slice none 0 0, .int .i64 0, .int .i64 2]) := hp
        subst hp
        have HB4 := Aside0.mk (below_step HB3.out hB4)
        clear hB4 HB3 hcv3 hcv
        go_wp2_with (fail)
        refine (awake_calls _).mono ?_
        rintro e w5 ⟨rfl, hB5⟩
        have HB5 := Aside0.mk (below_step HB4.out hB5)
        clear hB5 HB4
        go_wp2
        go_ret
        exact ⟨rfl, HB5.out⟩
      · obtain ⟨a1, a2⟩ := h
        obtain ⟨l, hl⟩ := S1.out.1 (okB_true r (by omega))
        have HL := Aside0.mk hl
        clear hl
        go_wp2_with (fail)
        refine (All_calls _ _).mono ?_
        rintro e w1 ⟨hB1, hp⟩
        rw [bs_append, HL.out] at hp
        obtain ⟨v, rfl, hR, _⟩ := hp
        have HB1 := Aside0.mk (below_step (below_alloc (Below.refl wr.heap.size wr) _) hB1)
        obtain ⟨A1, n1, c1, rfl⟩ := Lex.slice_of_R hR
        clear hB1 hR HL
        go_wp2_with (fail)
        refine (All_calls _ _).mono ?_
        rintro e w2 ⟨hB2, hp⟩
        rw [show bs (aList i) ++ ⟨#[35, 32]⟩ ++ bs [c] = bs (aList i ++ [35, 32, c]) by rw [show (⟨#[35, 32]⟩ : ByteArray) = bs [35, 32] from rfl, bs_append, bs_append, List.append_assoc]; rfl] at hp
        obtain ⟨l2, hl2⟩ := S2.out
        rw [hl2] at hp
        obtain ⟨v2, rfl, hR2, _⟩ := hp
        have HB2 := Aside0.mk (below_step (below_alloc HB1.out _) hB2)
        obtain ⟨A2, n2, c2, rfl⟩ := Lex.slice_of_R hR2
        clear hB2 hR2 hl2 HB1
        go_wp2_with ((with_reducible refine gate_dst (N := 91) rfl ?_); refine Kd.R_make (Kd.int .u8) _ 5 rfl (N := 91) rfl 40 _ _ rfl (8193 : Int) rfl rfl Try.underlying40 (.int .u8 0) 1 info5 rfl (by decide) (by omega) 0 (ok := fun _ => True) (okp := fun _ => False) rfl (fun _ hk => hk.elim) trivial (by omega) (by decide) (Below.refl _ _) (Nat.le_refl _) ?_; intro v3 w3 ho hb hg_ hnew_; clear hg_ hnew_; obtain ⟨Z, hZ, hcv3⟩ := big_string ho; have HZ := Aside0.mk hZ; have HB3 := Aside0.mk (below_step HB2.out hb); clear ho hb hZ HB2)
        refine (All_calls _ _).mono ?_
        rintro e w4 ⟨hB4, hp⟩
        rw [all_big Z HZ.out] at hp
        replace hp : e = .returned (.tuple #[.slice none 0 0, .int .i64 0, .int .i64 2]) := hp
        subst hp
        have HB4 := Aside0.mk (below_step HB3.out hB4)
        clear hB4 HB3 hcv3 hcv
        go_wp2_with (fail)
        refine (awake_calls _).mono ?_
        rintro e w5 ⟨rfl, hB5⟩
        have HB5 := Aside0.mk (below_step HB4.out hB5)
        clear hB5 HB4
        go_wp2
        go_ret
        exact ⟨rfl, HB5.out⟩
      · subst h
        obtain ⟨l, hl⟩ := S1.out.1 (okB_true _ (by omega))
        have HL := Aside0.mk hl
        clear hl
        go_wp2_with (fail)
        refine (All_calls _ _).mono ?_
        rintro e w1 ⟨hB1, hp⟩
        rw [bs_append, HL.out] at hp
        obtain ⟨v, rfl, hR, _⟩ := hp
        have HB1 := Aside0.mk (below_step (below_alloc (Below.refl wr.heap.size wr) _) hB1)
        obtain ⟨A1, n1, c1, rfl⟩ := Lex.slice_of_R hR
        clear hB1 hR HL
        go_wp2_with (fail)
        refine (All_calls _ _).mono ?_
        rintro e w2 ⟨hB2, hp⟩
        rw [show bs (aList i) ++ ⟨#[35, 32]⟩ ++ bs [c] = bs (aList i ++ [35, 32, c]) by rw [show (⟨#[35, 32]⟩ : ByteArray) = bs [35, 32] from rfl, bs_append, bs_append, List.append_assoc]; rfl] at hp
        obtain ⟨l2, hl2⟩ := S2.out
        rw [hl2] at hp
        obtain ⟨v2, rfl, hR2, _⟩ := hp
        have HB2 := Aside0.mk (below_step (below_alloc HB1.out _) hB2)
        obtain ⟨A2, n2, c2, rfl⟩ := Lex.slice_of_R hR2
        clear hB2 hR2 hl2 HB1
        go_wp2_with ((with_reducible refine gate_dst (N := 91) rfl ?_); refine Kd.R_make (Kd.int .u8) _ 5 rfl (N := 91) rfl 40 _ _ rfl (8193 : Int) rfl rfl Try.underlying40 (.int .u8 0) 1 info5 rfl (by decide) (by omega) 0 (ok := fun _ => True) (okp := fun _ => False) rfl (fun _ hk => hk.elim) trivial (by omega) (by decide) (Below.refl _ _) (Nat.le_refl _) ?_; intro v3 w3 ho hb hg_ hnew_; clear hg_ hnew_; obtain ⟨Z, hZ, hcv3⟩ := big_string ho; have HZ := Aside0.mk hZ; have HB3 := Aside0.mk (below_step HB2.out hb); clear ho hb hZ HB2)
        refine (All_calls _ _).mono ?_
        rintro e w4 ⟨hB4, hp⟩
        rw [all_big Z HZ.out] at hp
        replace hp : e = .returned (.tuple #[.slice none 0 0, .int .i64 0, .int .i64 2]) := hp
        subst hp
        have HB4 := Aside0.mk (below_step HB3.out hB4)
        clear hB4 HB3 hcv3 hcv
        go_wp2_with (fail)
        refine (awake_calls _).mono ?_
        rintro e w5 ⟨rfl, hB5⟩
        have HB5 := Aside0.mk (below_step HB4.out hB5)
        clear hB5 HB4
        go_wp2
        go_ret
        exact ⟨rfl, HB5.out⟩
      · subst h
        obtain ⟨l, hl⟩ := S1.out.1 (okB_true _ (by omega))
        have HL := Aside0.mk hl
        clear hl
        go_wp2_with (fail)
        refine (All_calls _ _).mono ?_
        rintro e w1 ⟨hB1, hp⟩
        rw [bs_append, HL.out] at hp
        obtain ⟨v, rfl, hR, _⟩ := hp
        have HB1 := Aside0.mk (below_step (below_alloc (Below.refl wr.heap.size wr) _) hB1)
        obtain ⟨A1, n1, c1, rfl⟩ := Lex.slice_of_R hR
        clear hB1 hR HL
        go_wp2_with (fail)
        refine (All_calls _ _).mono ?_
        rintro e w2 ⟨hB2, hp⟩
        rw [show bs (aList i) ++ ⟨#[35, 32]⟩ ++ bs [c] = bs (aList i ++ [35, 32, c]) by rw [show (⟨#[35, 32]⟩ : ByteArray) = bs [35, 32] from rfl, bs_append, bs_append, List.append_assoc]; rfl] at hp
        obtain ⟨l2, hl2⟩ := S2.out
        rw [hl2] at hp
        obtain ⟨v2, rfl, hR2, _⟩ := hp
        have HB2 := Aside0.mk (below_step (below_alloc HB1.out _) hB2)
        obtain ⟨A2, n2, c2, rfl⟩ := Lex.slice_of_R hR2
        clear hB2 hR2 hl2 HB1
        go_wp2_with ((with_reducible refine gate_dst (N := 91) rfl ?_); refine Kd.R_make (Kd.int .u8) _ 5 rfl (N := 91) rfl 40 _ _ rfl (8193 : Int) rfl rfl Try.underlying40 (.int .u8 0) 1 info5 rfl (by decide) (by omega) 0 (ok := fun _ => True) (okp := fun _ => False) rfl (fun _ hk => hk.elim) trivial (by omega) (by decide) (Below.refl _ _) (Nat.le_refl _) ?_; intro v3 w3 ho hb hg_ hnew_; clear hg_ hnew_; obtain ⟨Z, hZ, hcv3⟩ := big_string ho; have HZ := Aside0.mk hZ; have HB3 := Aside0.mk (below_step HB2.out hb); clear ho hb hZ HB2)
        refine (All_calls _ _).mono ?_
        rintro e w4 ⟨hB4, hp⟩
        rw [all_big Z HZ.out] at hp
        replace hp : e = .returned (.tuple #[.slice none 0 0, .int .i64 0, .int .i64 2]) := hp
        subst hp
        have HB4 := Aside0.mk (below_step HB3.out hB4)
        clear hB4 HB3 hcv3 hcv
        go_wp2_with (fail)
        refine (awake_calls _).mono ?_
        rintro e w5 ⟨rfl, hB5⟩
        have HB5 := Aside0.mk (below_step HB4.out hB5)
        clear hB5 HB4
        go_wp2
        go_ret
        exact ⟨rfl, HB5.out⟩
      · subst h
        obtain ⟨l, hl⟩ := S1.out.1 (okB_true _ (by omega))
        have HL := Aside0.mk hl
        clear hl
        go_wp2_with (fail)
        refine (All_calls _ _).mono ?_
        rintro e w1 ⟨hB1, hp⟩
        rw [bs_append, HL.out] at hp
        obtain ⟨v, rfl, hR, _⟩ := hp
        have HB1 := Aside0.mk (below_step (below_alloc (Below.refl wr.heap.size wr) _) hB1)
        obtain ⟨A1, n1, c1, rfl⟩ := Lex.slice_of_R hR
        clear hB1 hR HL
        go_wp2_with (fail)
        refine (All_calls _ _).mono ?_
        rintro e w2 ⟨hB2, hp⟩
        rw [show bs (aList i) ++ ⟨#[35, 32]⟩ ++ bs [c] = bs (aList i ++ [35, 32, c]) by rw [show (⟨#[35, 32]⟩ : ByteArray) = bs [35, 32] from rfl, bs_append, bs_append, List.append_assoc]; rfl] at hp
        obtain ⟨l2, hl2⟩ := S2.out
        rw [hl2] at hp
        obtain ⟨v2, rfl, hR2, _⟩ := hp
        have HB2 := Aside0.mk (below_step (below_alloc HB1.out _) hB2)
        obtain ⟨A2, n2, c2, rfl⟩ := Lex.slice_of_R hR2
        clear hB2 hR2 hl2 HB1
        go_wp2_with ((with_reducible refine gate_dst (N := 91) rfl ?_); refine Kd.R_make (Kd.int .u8) _ 5 rfl (N := 91) rfl 40 _ _ rfl (8193 : Int) rfl rfl Try.underlying40 (.int .u8 0) 1 info5 rfl (by decide) (by omega) 0 (ok := fun _ => True) (okp := fun _ => False) rfl (fun _ hk => hk.elim) trivial (by omega) (by decide) (Below.refl _ _) (Nat.le_refl _) ?_; intro v3 w3 ho hb hg_ hnew_; clear hg_ hnew_; obtain ⟨Z, hZ, hcv3⟩ := big_string ho; have HZ := Aside0.mk hZ; have HB3 := Aside0.mk (below_step HB2.out hb); clear ho hb hZ HB2)
        refine (All_calls _ _).mono ?_
        rintro e w4 ⟨hB4, hp⟩
        rw [all_big Z HZ.out] at hp
        replace hp : e = .returned (.tuple #[.slice none 0 0, .int .i64 0, .int .i64 2]) := hp
        subst hp
        have HB4 := Aside0.mk (below_step HB3.out hB4)
        clear hB4 HB3 hcv3 hcv
        go_wp2_with (fail)
        refine (awake_calls _).mono ?_
        rintro e w5 ⟨rfl, hB5⟩
        have HB5 := Aside0.mk (below_step HB4.out hB5)
        clear hB5 HB4
        go_wp2
        go_ret
        exact ⟨rfl, HB5.out⟩
      · subst h
        obtain ⟨l, hl⟩ := S1.out.1 (okB_true _ (by omega))
        have HL := Aside0.mk hl
        clear hl
        go_wp2_with (fail)
        refine (All_calls _ _).mono ?_
        rintro e w1 ⟨hB1, hp⟩
        rw [bs_append, HL.out] at hp
        obtain ⟨v, rfl, hR, _⟩ := hp
        have HB1 := Aside0.mk (below_step (below_alloc (Below.refl wr.heap.size wr) _) hB1)
        obtain ⟨A1, n1, c1, rfl⟩ := Lex.slice_of_R hR
        clear hB1 hR HL
        go_wp2_with (fail)
        refine (All_calls _ _).mono ?_
        rintro e w2 ⟨hB2, hp⟩
        rw [show bs (aList i) ++ ⟨#[35, 32]⟩ ++ bs [c] = bs (aList i ++ [35, 32, c]) by rw [show (⟨#[35, 32]⟩ : ByteArray) = bs [35, 32] from rfl, bs_append, bs_append, List.append_assoc]; rfl] at hp
        obtain ⟨l2, hl2⟩ := S2.out
        rw [hl2] at hp
        obtain ⟨v2, rfl, hR2, _⟩ := hp
        have HB2 := Aside0.mk (below_step (below_alloc HB1.out _) hB2)
        obtain ⟨A2, n2, c2, rfl⟩ := Lex.slice_of_R hR2
        clear hB2 hR2 hl2 HB1
        go_wp2_with ((with_reducible refine gate_dst (N := 91) rfl ?_); refine Kd.R_make (Kd.int .u8) _ 5 rfl (N := 91) rfl 40 _ _ rfl (8193 : Int) rfl rfl Try.underlying40 (.int .u8 0) 1 info5 rfl (by decide) (by omega) 0 (ok := fun _ => True) (okp := fun _ => False) rfl (fun _ hk => hk.elim) trivial (by omega) (by decide) (Below.refl _ _) (Nat.le_refl _) ?_; intro v3 w3 ho hb hg_ hnew_; clear hg_ hnew_; obtain ⟨Z, hZ, hcv3⟩ := big_string ho; have HZ := Aside0.mk hZ; have HB3 := Aside0.mk (below_step HB2.out hb); clear ho hb hZ HB2)
        refine (All_calls _ _).mono ?_
        rintro e w4 ⟨hB4, hp⟩
        rw [all_big Z HZ.out] at hp
        replace hp : e = .returned (.tuple #[.slice none 0 0, .int .i64 0, .int .i64 2]) := hp
        subst hp
        have HB4 := Aside0.mk (below_step HB3.out hB4)
        clear hB4 HB3 hcv3 hcv
        go_wp2_with (fail)
        refine (awake_calls _).mono ?_
        rintro e w5 ⟨rfl, hB5⟩
        have HB5 := Aside0.mk (below_step HB4.out hB5)
        clear hB5 HB4
        go_wp2
        go_ret
        exact ⟨rfl, HB5.out⟩
      · subst h
        obtain ⟨l, hl⟩ := S1.out.1 (okB_true _ (by omega))
        have HL := Aside0.mk hl
        clear hl
        go_wp2_with (fail)
        refine (All_calls _ _).mono ?_
        rintro e w1 ⟨hB1, hp⟩
        rw [bs_append, HL.out] at hp
        obtain ⟨v, rfl, hR, _⟩ := hp
        have HB1 := Aside0.mk (below_step (below_alloc (Below.refl wr.heap.size wr) _) hB1)
        obtain ⟨A1, n1, c1, rfl⟩ := Lex.slice_of_R hR
        clear hB1 hR HL
        go_wp2_with (fail)
        refine (All_calls _ _).mono ?_
        rintro e w2 ⟨hB2, hp⟩
        rw [show bs (aList i) ++ ⟨#[35, 32]⟩ ++ bs [c] = bs (aList i ++ [35, 32, c]) by rw [show (⟨#[35, 32]⟩ : ByteArray) = bs [35, 32] from rfl, bs_append, bs_append, List.append_assoc]; rfl] at hp
        obtain ⟨l2, hl2⟩ := S2.out
        rw [hl2] at hp
        obtain ⟨v2, rfl, hR2, _⟩ := hp
        have HB2 := Aside0.mk (below_step (below_alloc HB1.out _) hB2)
        obtain ⟨A2, n2, c2, rfl⟩ := Lex.slice_of_R hR2
        clear hB2 hR2 hl2 HB1
        go_wp2_with ((with_reducible refine gate_dst (N := 91) rfl ?_); refine Kd.R_make (Kd.int .u8) _ 5 rfl (N := 91) rfl 40 _ _ rfl (8193 : Int) rfl rfl Try.underlying40 (.int .u8 0) 1 info5 rfl (by decide) (by omega) 0 (ok := fun _ => True) (okp := fun _ => False) rfl (fun _ hk => hk.elim) trivial (by omega) (by decide) (Below.refl _ _) (Nat.le_refl _) ?_; intro v3 w3 ho hb hg_ hnew_; clear hg_ hnew_; obtain ⟨Z, hZ, hcv3⟩ := big_string ho; have HZ := Aside0.mk hZ; have HB3 := Aside0.mk (below_step HB2.out hb); clear ho hb hZ HB2)
        refine (All_calls _ _).mono ?_
        rintro e w4 ⟨hB4, hp⟩
        rw [all_big Z HZ.out] at hp
        replace hp : e = .returned (.tuple #[.slice none 0 0, .int .i64 0, .int .i64 2]) := hp
        subst hp
        have HB4 := Aside0.mk (below_step HB3.out hB4)
        clear hB4 HB3 hcv3 hcv
        go_wp2_with (fail)
        refine (awake_calls _).mono ?_
        rintro e w5 ⟨rfl, hB5⟩
        have HB5 := Aside0.mk (below_step HB4.out hB5)
        clear hB5 HB4
        go_wp2
        go_ret
        exact ⟨rfl, HB5.out⟩
      · subst h
        obtain ⟨l, hl⟩ := S1.out.1 (okB_true _ (by omega))
        have HL := Aside0.mk hl
        clear hl
        go_wp2_with (fail)
        refine (All_calls _ _).mono ?_
        rintro e w1 ⟨hB1, hp⟩
        rw [bs_append, HL.out] at hp
        obtain ⟨v, rfl, hR, _⟩ := hp
        have HB1 := Aside0.mk (below_step (below_alloc (Below.refl wr.heap.size wr) _) hB1)
        obtain ⟨A1, n1, c1, rfl⟩ := Lex.slice_of_R hR
        clear hB1 hR HL
        go_wp2_with (fail)
        refine (All_calls _ _).mono ?_
        rintro e w2 ⟨hB2, hp⟩
        rw [show bs (aList i) ++ ⟨#[35, 32]⟩ ++ bs [c] = bs (aList i ++ [35, 32, c]) by rw [show (⟨#[35, 32]⟩ : ByteArray) = bs [35, 32] from rfl, bs_append, bs_append, List.append_assoc]; rfl] at hp
        obtain ⟨l2, hl2⟩ := S2.out
        rw [hl2] at hp
        obtain ⟨v2, rfl, hR2, _⟩ := hp
        have HB2 := Aside0.mk (below_step (below_alloc HB1.out _) hB2)
        obtain ⟨A2, n2, c2, rfl⟩ := Lex.slice_of_R hR2
        clear hB2 hR2 hl2 HB1
        go_wp2_with ((with_reducible refine gate_dst (N := 91) rfl ?_); refine Kd.R_make (Kd.int .u8) _ 5 rfl (N := 91) rfl 40 _ _ rfl (8193 : Int) rfl rfl Try.underlying40 (.int .u8 0) 1 info5 rfl (by decide) (by omega) 0 (ok := fun _ => True) (okp := fun _ => False) rfl (fun _ hk => hk.elim) trivial (by omega) (by decide) (Below.refl _ _) (Nat.le_refl _) ?_; intro v3 w3 ho hb hg_ hnew_; clear hg_ hnew_; obtain ⟨Z, hZ, hcv3⟩ := big_string ho; have HZ := Aside0.mk hZ; have HB3 := Aside0.mk (below_step HB2.out hb); clear ho hb hZ HB2)
        refine (All_calls _ _).mono ?_
        rintro e w4 ⟨hB4, hp⟩
        rw [all_big Z HZ.out] at hp
        replace hp : e = .returned (.tuple #[.slice none 0 0, .int .i64 0, .int .i64 2]) := hp
        subst hp
        have HB4 := Aside0.mk (below_step HB3.out hB4)
        clear hB4 HB3 hcv3 hcv
        go_wp2_with (fail)
        refine (awake_calls _).mono ?_
        rintro e w5 ⟨rfl, hB5⟩
        have HB5 := Aside0.mk (below_step HB4.out hB5)
        clear hB5 HB4
        go_wp2
        go_ret
        exact ⟨rfl, HB5.out⟩
      · subst h
        obtain ⟨l, hl⟩ := S1.out.1 (okB_true _ (by omega))
        have HL := Aside0.mk hl
        clear hl
        go_wp2_with (fail)
        refine (All_calls _ _).mono ?_
        rintro e w1 ⟨hB1, hp⟩
        rw [bs_append, HL.out] at hp
        obtain ⟨v, rfl, hR, _⟩ := hp
        have HB1 := Aside0.mk (below_step (below_alloc (Below.refl wr.heap.size wr) _) hB1)
        obtain ⟨A1, n1, c1, rfl⟩ := Lex.slice_of_R hR
        clear hB1 hR HL
        go_wp2_with (fail)
        refine (All_calls _ _).mono ?_
        rintro e w2 ⟨hB2, hp⟩
        rw [show bs (aList i) ++ ⟨#[35, 32]⟩ ++ bs [c] = bs (aList i ++ [35, 32, c]) by rw [show (⟨#[35, 32]⟩ : ByteArray) = bs [35, 32] from rfl, bs_append, bs_append, List.append_assoc]; rfl] at hp
        obtain ⟨l2, hl2⟩ := S2.out
        rw [hl2] at hp
        obtain ⟨v2, rfl, hR2, _⟩ := hp
        have HB2 := Aside0.mk (below_step (below_alloc HB1.out _) hB2)
        obtain ⟨A2, n2, c2, rfl⟩ := Lex.slice_of_R hR2
        clear hB2 hR2 hl2 HB1
        go_wp2_with ((with_reducible refine gate_dst (N := 91) rfl ?_); refine Kd.R_make (Kd.int .u8) _ 5 rfl (N := 91) rfl 40 _ _ rfl (8193 : Int) rfl rfl Try.underlying40 (.int .u8 0) 1 info5 rfl (by decide) (by omega) 0 (ok := fun _ => True) (okp := fun _ => False) rfl (fun _ hk => hk.elim) trivial (by omega) (by decide) (Below.refl _ _) (Nat.le_refl _) ?_; intro v3 w3 ho hb hg_ hnew_; clear hg_ hnew_; obtain ⟨Z, hZ, hcv3⟩ := big_string ho; have HZ := Aside0.mk hZ; have HB3 := Aside0.mk (below_step HB2.out hb); clear ho hb hZ HB2)
        refine (All_calls _ _).mono ?_
        rintro e w4 ⟨hB4, hp⟩
        rw [all_big Z HZ.out] at hp
        replace hp : e = .returned (.tuple #[.slice none 0 0, .int .i64 0, .int .i64 2]) := hp
        subst hp
        have HB4 := Aside0.mk (below_step HB3.out hB4)
        clear hB4 HB3 hcv3 hcv
        go_wp2_with (fail)
        refine (awake_calls _).mono ?_
        rintro e w5 ⟨rfl, hB5⟩
        have HB5 := Aside0.mk (below_step HB4.out hB5)
        clear hB5 HB4
        go_wp2
        go_ret
        exact ⟨rfl, HB5.out⟩
      · obtain ⟨ho, ⟨t1, t2, t3, t4, t5, t6, t7⟩, hrng⟩ := h
        have hl := S1.out.2 ho
        clear ho S1
        rcases hrng with q | ⟨q, q'⟩ | q
        · have HL := Aside0.mk hl
          clear hl
          go_wp2_with (fail)
          refine (All_calls _ _).mono ?_
          rintro e w1 ⟨hB1, hp⟩
          rw [bs_append, HL.out] at hp
          replace hp : e = .returned (.tuple #[.slice none 0 0, .int .i64 ((i : Int) + 1), .int .i64 3]) := hp
          subst hp
          have HB1 := Aside0.mk (below_step (below_alloc (Below.refl wr.heap.size wr) _) hB1)
          clear hB1 HL
          go_wp2_with (fail)
          refine (All_calls _ _).mono ?_
          rintro e w2 ⟨hB2, hp⟩
          rw [show bs (aList i) ++ ⟨#[35, 32]⟩ ++ bs [c] = bs (aList i ++ [35, 32, c]) by rw [show (⟨#[35, 32]⟩ : ByteArray) = bs [35, 32] from rfl, bs_append, bs_append, List.append_assoc]; rfl] at hp
          obtain ⟨l2, hl2⟩ := S2.out
          rw [hl2] at hp
          obtain ⟨v2, rfl, hR2, _⟩ := hp
          have HB2 := Aside0.mk (below_step (below_alloc HB1.out _) hB2)
          obtain ⟨A2, n2, c2, rfl⟩ := Lex.slice_of_R hR2
          clear hB2 hR2 hl2 HB1
          go_wp2_with ((with_reducible refine gate_dst (N := 91) rfl ?_); refine Kd.R_make (Kd.int .u8) _ 5 rfl (N := 91) rfl 40 _ _ rfl (8193 : Int) rfl rfl Try.underlying40 (.int .u8 0) 1 info5 rfl (by decide) (by omega) 0 (ok := fun _ => True) (okp := fun _ => False) rfl (fun _ hk => hk.elim) trivial (by omega) (by decide) (Below.refl _ _) (Nat.le_refl _) ?_; intro v3 w3 ho hb hg_ hnew_; clear hg_ hnew_; obtain ⟨Z, hZ, hcv3⟩ := big_string ho; have HZ := Aside0.mk hZ; have HB3 := Aside0.mk (below_step HB2.out hb); clear ho hb hZ HB2)
          refine (All_calls _ _).mono ?_
          rintro e w4 ⟨hB4, hp⟩
          rw [all_big Z HZ.out] at hp
          replace hp : e = .returned (.tuple #[.slice none 0 0, .int .i64 0, .int .i64 2]) := hp
          subst hp
          have HB4 := Aside0.mk (below_step HB3.out hB4)
          clear hB4 HB3 hcv3 hcv
          go_wp2_with (fail)
          refine (awake_calls _).mono ?_
          rintro e w5 ⟨rfl, hB5⟩
          have HB5 := Aside0.mk (below_step HB4.out hB5)
          clear hB5 HB4
          go_wp2
          go_ret
          exact ⟨rfl, HB5.out⟩
        · have u1 : decide (r ≤ 57) = false := decide_eq_false (by omega)
          have HL := Aside0.mk hl
          clear hl
          go_wp2_with (fail)
          refine (All_calls _ _).mono ?_
          rintro e w1 ⟨hB1, hp⟩
          rw [bs_append, HL.out] at hp
          replace hp : e = .returned (.tuple #[.slice none 0 0, .int .i64 ((i : Int) + 1), .int .i64 3]) := hp
          subst hp
          have HB1 := Aside0.mk (below_step (below_alloc (Below.refl wr.heap.size wr) _) hB1)
          clear hB1 HL
          go_wp2_with (fail)
          refine (All_calls _ _).mono ?_
          rintro e w2 ⟨hB2, hp⟩
          rw [show bs (aList i) ++ ⟨#[35, 32]⟩ ++ bs [c] = bs (aList i ++ [35, 32, c]) by rw [show (⟨#[35, 32]⟩ : ByteArray) = bs [35, 32] from rfl, bs_append, bs_append, List.append_assoc]; rfl] at hp
          obtain ⟨l2, hl2⟩ := S2.out
          rw [hl2] at hp
          obtain ⟨v2, rfl, hR2, _⟩ := hp
          have HB2 := Aside0.mk (below_step (below_alloc HB1.out _) hB2)
          obtain ⟨A2, n2, c2, rfl⟩ := Lex.slice_of_R hR2
          clear hB2 hR2 hl2 HB1
          go_wp2_with ((with_reducible refine gate_dst (N := 91) rfl ?_); refine Kd.R_make (Kd.int .u8) _ 5 rfl (N := 91) rfl 40 _ _ rfl (8193 : Int) rfl rfl Try.underlying40 (.int .u8 0) 1 info5 rfl (by decide) (by omega) 0 (ok := fun _ => True) (okp := fun _ => False) rfl (fun _ hk => hk.elim) trivial (by omega) (by decide) (Below.refl _ _) (Nat.le_refl _) ?_; intro v3 w3 ho hb hg_ hnew_; clear hg_ hnew_; obtain ⟨Z, hZ, hcv3⟩ := big_string ho; have HZ := Aside0.mk hZ; have HB3 := Aside0.mk (below_step HB2.out hb); clear ho hb hZ HB2)
          refine (All_calls _ _).mono ?_
          rintro e w4 ⟨hB4, hp⟩
          rw [all_big Z HZ.out] at hp
          replace hp : e = .returned (.tuple #[.slice none 0 0, .int .i64 0, .int .i64 2]) := hp
          subst hp
          have HB4 := Aside0.mk (below_step HB3.out hB4)
          clear hB4 HB3 hcv3 hcv
          go_wp2_with (fail)
          refine (awake_calls _).mono ?_
          rintro e w5 ⟨rfl, hB5⟩
          have HB5 := Aside0.mk (below_step HB4.out hB5)
          clear hB5 HB4
          go_wp2
          go_ret
          exact ⟨rfl, HB5.out⟩
        · have u1 : decide (r ≤ 57) = false := decide_eq_false (by omega)
          have u2 : decide (r ≤ 122) = false := decide_eq_false (by omega)
          have HL := Aside0.mk hl
          clear hl
          go_wp2_with (fail)
          refine (All_calls _ _).mono ?_
          rintro e w1 ⟨hB1, hp⟩
          rw [bs_append, HL.out] at hp
          replace hp : e = .returned (.tuple #[.slice none 0 0, .int .i64 ((i : Int) + 1), .int .i64 3]) := hp
          subst hp
          have HB1 := Aside0.mk (below_step (below_alloc (Below.refl wr.heap.size wr) _) hB1)
          clear hB1 HL
          go_wp2_with (fail)
          refine (All_calls _ _).mono ?_
          rintro e w2 ⟨hB2, hp⟩
          rw [show bs (aList i) ++ ⟨#[35, 32]⟩ ++ bs [c] = bs (aList i ++ [35, 32, c]) by rw [show (⟨#[35, 32]⟩ : ByteArray) = bs [35, 32] from rfl, bs_append, bs_append, List.append_assoc]; rfl] at hp
          obtain ⟨l2, hl2⟩ := S2.out
          rw [hl2] at hp
          obtain ⟨v2, rfl, hR2, _⟩ := hp
          have HB2 := Aside0.mk (below_step (below_alloc HB1.out _) hB2)
          obtain ⟨A2, n2, c2, rfl⟩ := Lex.slice_of_R hR2
          clear hB2 hR2 hl2 HB1
          go_wp2_with ((with_reducible refine gate_dst (N := 91) rfl ?_); refine Kd.R_make (Kd.int .u8) _ 5 rfl (N := 91) rfl 40 _ _ rfl (8193 : Int) rfl rfl Try.underlying40 (.int .u8 0) 1 info5 rfl (by decide) (by omega) 0 (ok := fun _ => True) (okp := fun _ => False) rfl (fun _ hk => hk.elim) trivial (by omega) (by decide) (Below.refl _ _) (Nat.le_refl _) ?_; intro v3 w3 ho hb hg_ hnew_; clear hg_ hnew_; obtain ⟨Z, hZ, hcv3⟩ := big_string ho; have HZ := Aside0.mk hZ; have HB3 := Aside0.mk (below_step HB2.out hb); clear ho hb hZ HB2)
          refine (All_calls _ _).mono ?_
          rintro e w4 ⟨hB4, hp⟩
          rw [all_big Z HZ.out] at hp
          replace hp : e = .returned (.tuple #[.slice none 0 0, .int .i64 0, .int .i64 2]) := hp
          subst hp
          have HB4 := Aside0.mk (below_step HB3.out hB4)
          clear hB4 HB3 hcv3 hcv
          go_wp2_with (fail)
          refine (awake_calls _).mono ?_
          rintro e w5 ⟨rfl, hB5⟩
          have HB5 := Aside0.mk (below_step HB4.out hB5)
          clear hB5 HB4
          go_wp2
          go_ret
          exact ⟨rfl, HB5.out⟩
theorem LexWrong_row (r lines : Int) (h : 0 ≤ r ∧ r ≤ 255) (w : World) :
    Calls Try.prog 7 #[.int .u8 r, .int .i64 lines] w fun e w' => e = .returned (.bool true) ∧ Below w.heap.size w w' := by
  refine LexWrong_calls (UInt8.ofNat r.toNat) r ?_ lines w
  rw [UInt8.toNat_ofNat']
  omega
end Go.Proofs.Ythnmaaoafogbiaa.LexWrong
