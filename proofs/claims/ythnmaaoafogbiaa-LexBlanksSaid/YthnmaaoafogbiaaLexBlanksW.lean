/- The walk of LexBlanks. -/
import Derived.Test.YthnmaaoafogbiaaLex11
namespace Go.Proofs.Ythnmaaoafogbiaa.LexBlanks
set_option linter.unusedSimpArgs false
set_option linter.unusedVariables false
open Go.RowKit Go.Proofs.YthnmaaoafogbiaaW.PrintWords Go.Proofs.YthnmaaoafogbiaaW.PrintLast Go.Proofs.YthnmaaoafogbiaaW.PrintMore PLexAll Go.Proofs.YthnmaaoafogbiaaW.Canon Lex
attribute [local go_sem] max2_mx min2_mn max_two min_two max_three min_three max_four min_four

theorem bs_take (S : List UInt8) (k : Nat) : (bs S).extract 0 k = bs (S.take k) := by
  apply ByteArray.ext
  rw [ByteArray.data_extract]
  show (S.toArray).extract 0 k = (S.take k).toArray
  simp
theorem bs_drop (S : List UInt8) (k : Nat) (h : k ≤ S.length) : (bs S).extract k (bs S).size = bs (S.drop k) := by
  apply ByteArray.ext
  rw [ByteArray.data_extract, bs_size]
  show (S.toArray).extract k S.length = (S.drop k).toArray
  simp
  exact List.take_of_length_le (by simp)
theorem sl1 (S : List UInt8) (k : Nat) (h : k ≤ S.length) (W : World) : (Instr.slice 9 (.string (bs S)) none (some (.int .i64 k)) none).run Try.prog W = .ok (.string (bs (S.take k))) W := by
  rw [run_slice_string_h W 9 (bs S) Try.underlying9 .i64 k (by omega) (by rw [bs_size]; omega), Int.toNat_natCast, bs_take]
theorem sl2 (S : List UInt8) (k : Nat) (h : k ≤ S.length) (W : World) : (Instr.slice 9 (.string (bs S)) (some (.int .i64 k)) none none).run Try.prog W = .ok (.string (bs (S.drop k))) W := by
  rw [run_slice_string_l W 9 (bs S) Try.underlying9 .i64 k (by omega) (by rw [bs_size]; omega), Int.toNat_natCast, bs_drop S k h]
theorem pick4 (j : Int) (h0 : 0 ≤ j) (h1 : j < 4) (W : World) :
    (Instr.index 35 (.agg #[.string ⟨#[32]⟩, .string ⟨#[32, 35, 32, 119, 111, 114, 100, 115, 44, 32, 53, 32, 58]⟩, .string ⟨#[9, 13]⟩, .string ⟨#[10]⟩]) (.int .i64 j)).run Try.prog W = .ok (.string (bs (piece j.toNat))) W := by
  have hk : j = 0 ∨ j = 1 ∨ j = 2 ∨ j = 3 := by omega
  rcases hk with rfl | rfl | rfl | rfl <;> rfl
theorem piece_len (n : Nat) : (piece n).length ≤ 13 := by unfold piece; split <;> decide
theorem atEnd_drop (S : List UInt8) (k : Nat) (h : k ≤ S.length) (hk : ∀ h : k < S.length, (S[k]'h).toNat = 10) : AtEnd (S.drop k) := by
  by_cases hl : k < S.length
  · refine .inr ⟨S.drop (k + 1), ?_⟩
    rw [List.drop_eq_getElem_cons hl]
    have := hk hl
    rw [show S[k] = 10 from UInt8.toNat_inj.mp this]
  · exact .inl (List.drop_eq_nil_of_le (by omega))
theorem sl22 : Try.prog.underlying 22 = some (.slice (Try.prog.elem 22)) := by kernel_rfl
theorem sz22 (w : World) : (sizeOf (Try.prog.elem 22)).run Try.prog w = .ok 4 w := by rfl
theorem ix31 (ad : Addr) (len : Nat) (c : Nat) (i : Int) (n : Nat) (W : World) (h0 : 0 ≤ i) (h1 : i < len) (hn : i.toNat * 4 = n) :
    (Instr.indexAt 22 (.slice (some ad) len c) (.int .i64 i)).run Try.prog W = .ok (.pointer (some (ad.add n))) W := by
  rw [run_indexAt_slice (h := sl22), if_pos ⟨h0, h1⟩, sz22, ← hn]
  rfl
theorem meas1 {n j : Nat} {W : Int} (h : j < n) (hW : W = j + 1) : n - (intOf (.int .i64 W)).toNat < n - (intOf (.int .i64 (j : Int))).toNat := by simp only [intOf]; omega


set_option maxRecDepth 20000 in
set_option maxHeartbeats 1000000 in
theorem LexBlanks_calls (S : List UInt8) (at_ which : Int) (w : World) :
    Calls Try.prog 4 #[.string (bs S), .int .i64 at_, .int .i64 which] w fun e w' => e = .returned (.bool true) ∧ Below w.heap.size w w' := by
  have e1 : (bs S).size = S.length := bs_size S
  by_cases hS : 2000 < S.length
  · go_enter Try.func4, Try.ntmps4
    go_wp2_with (fail)
    refine (awake_calls _).mono ?_
    rintro e wz ⟨rfl, hBz⟩
    have HBz := Aside0.mk (hBz)
    clear hBz
    go_wp2
    go_ret
    exact ⟨rfl, HBz.out⟩
  cases hg : goT S x0 with
  | inl n =>
    have H1 := Aside0.mk (allT_inl (l := S) (by omega) hg)
    clear hg
    go_enter Try.func4, Try.ntmps4
    go_wp2_with (fail)
    refine (All_calls _ _).mono ?_
    rintro e w1 ⟨hB1, hp⟩
    rw [H1.out] at hp
    replace hp : e = .returned (.tuple #[.slice none 0 0, .int .i64 n, .int .i64 3]) := hp
    subst hp
    have HB1 := Aside0.mk hB1
    clear hB1
    go_wp2_with (fail)
    refine (awake_calls _).mono ?_
    rintro e wz ⟨rfl, hBz⟩
    have HBz := Aside0.mk (below_step HB1.out hBz)
    clear hBz
    go_wp2
    go_ret
    exact ⟨rfl, HBz.out⟩
  | inr y =>
    have H1 := Aside0.mk (allT_inr (l := S) (by omega) hg)
    clear hg
    obtain ⟨l, hl⟩ : ∃ l, y.l = l := ⟨_, rfl⟩
    rw [hl] at H1
    clear hl
    go_enter Try.func4, Try.ntmps4
    go_wp2_with (fail)
    refine (All_calls _ _).mono ?_
    rintro e w1 ⟨hB1, hp⟩
    rw [H1.out] at hp
    obtain ⟨va, rfl, hRa, hla⟩ := hp
    obtain ⟨Aa, ca, rfl⟩ := Kd.R_slice hRa
    rw [bs_size] at hla
    have RA := Aside0.mk hRa
    have HB1 := Aside0.mk hB1
    clear hB1 hRa
    go_wp2_with (fail)
    refine (Place_calls _ _ _ (by omega) (by omega)).mono ?_
    rintro e w' ⟨rfl, rfl⟩
    have m0 : 0 ≤ at_ % ((S.length : Int) + 1) := Int.emod_nonneg _ (by omega)
    have m1 : at_ % ((S.length : Int) + 1) < (S.length : Int) + 1 := Int.emod_lt_of_pos _ (by omega)
    revert m0 m1
    generalize at_ % ((S.length : Int) + 1) = k0
    intro m0 m1
    obtain ⟨K0, rfl⟩ : ∃ K0 : Nat, k0 = K0 := ⟨k0.toNat, by omega⟩
    go_wp2_with (fail)
    go_loopw [10] (fun u w' => ∃ k : Nat, u = .int .i64 k ∧ k ≤ S.length ∧ w' = w1) (fun u _ => S.length - (intOf u).toNat)
    case atStart => exact ⟨K0, rfl, by omega, rfl⟩
    case round =>
      obtain ⟨k, rfl, hk, rfl⟩ := hrel
      clear m0 m1
      by_cases hlt : k < S.length
      · have hbt : (bs S)[k]'(show k < (bs S).size by rw [bs_size]; exact hlt) = S[k]'hlt := rfl
        by_cases h10 : (S[k]'hlt).toNat = 10
        · have t10 : ((((bs S)[k]'(show k < (bs S).size by rw [bs_size]; exact hlt)).toNat : Int) == 10) = true := beq_iff_eq.mpr (by rw [hbt]; omega)
          have hAE := atEnd_drop S k hk (fun _ => h10)
          clear hbt h10
          go_wp2_with (fail)
          refine (Place_calls _ _ _ (by omega) (by omega)).mono ?_
          rintro e w' ⟨rfl, rfl⟩
          have j0 : 0 ≤ which % 4 := by omega
          have j1 : which % 4 < 4 := by omega
          revert j0 j1
          generalize which % 4 = jj
          intro j0 j1
          have hpk := pick4 jj j0 j1
          obtain ⟨N, hN⟩ : ∃ N, jj.toNat = N := ⟨_, rfl⟩
          rw [hN] at hpk
          clear j0 j1 hN
          have hs1 := sl1 S k hk
          have hs2 := sl2 S k hk
          have e2 : (bs (S.take k)).size = k := by rw [bs_size, List.length_take, Nat.min_eq_left hk]
          have e3 : (bs (S.drop k)).size = S.length - k := by rw [bs_size, List.length_drop]
          obtain ⟨P, hP⟩ : ∃ P, (bs (piece N)).size = P := ⟨_, rfl⟩
          have e4 : P ≤ 13 := by rw [← hP, bs_size]; exact piece_len N
          obtain ⟨m, hm, hml, hok, hrd⟩ := blanks_all (S.take k) (S.drop k) (by rw [← List.length_append, List.take_append_drop]; omega) hAE N l (by rw [List.take_append_drop]; exact H1.out)
          have M := Aside0.mk hm
          have OK := Aside0.mk hok
          have RD := Aside0.mk hrd
          have ML := Aside0.mk hml
          clear hm hok hrd hml H1 hAE
          go_wp2_with (fail)
          refine canon [(0,1),(1,1),(2,1),(3,1),(4,1),(5,1),(6,1),(7,1),(8,1),(9,0),(10,1),(11,1),(12,1),(13,1),(14,1),(15,1),(16,1)] [] (fun _ => True) (by kernel_rfl) rfl rfl (by kernel_rfl) (by intro c d v a w h; cases d <;> exact h) ?_
          intro w2 hb2 _
          have RA2 := Aside0.mk (Kd.R_below RA.out hb2)
          have HB2 := Aside0.mk (below_step HB1.out hb2)
          clear hb2 RA HB1
          have q1 : ¬ (9223372036854775807 < k + P) := by omega
          have q2 : ¬ (9223372036854775807 < k + P + (S.length - k)) := by omega
          repeat (first | (refine c_pure rfl rfl (by rfl) (v := ?_) ?_ (a' := ?_) ?_ ?_; rotate_left; (focus (intro w'; go_simp; with_reducible rfl)); rotate_left; (focus ((try simp only [Act.put, List.setIfInBounds_toArray, List.set_cons_zero, List.set_cons_succ, i64_w, i32_w]); rfl))) | (refine c_off rfl rfl (by rfl) (a' := ?_) ?_ ?_; rotate_left; (focus ((try simp only [Act.put, List.setIfInBounds_toArray, List.set_cons_zero, List.set_cons_succ, i64_w, i32_w]); rfl))))
          clear q1 q2
          refine c_eff rfl (fun K hK => ?_)
          go_simp
          refine (All_calls _ _).mono ?_
          rintro e w3 ⟨hB3, hp⟩
          rw [bs_append, bs_append, List.append_assoc, M.out] at hp
          obtain ⟨vb, rfl, hRb, hlb⟩ := hp
          obtain ⟨Ab, cb, rfl⟩ := Kd.R_slice hRb
          refine hK _ _ (fun _ => trivial) ?_
          clear hK K hlb
          rw [ML.out] at hRb ⊢
          have RB3 := Aside0.mk hRb
          have RA3 := Aside0.mk (Kd.R_below RA2.out hB3)
          have HB3 := Aside0.mk (below_step HB2.out hB3)
          have HL := Aside0.mk (show l.length ≤ 4002 by omega)
          clear hRb RA2 HB2 hB3 hs1 hs2 e2 e3 e4 hP hpk M ML hla hS
          (refine c_norm (a' := ?_) ?_ ?_; rotate_left; (focus ((try simp only [Act.put, List.setIfInBounds_toArray, List.set_cons_zero, List.set_cons_succ, i64_w, i32_w]); rfl)))
          repeat (first | (refine c_pure rfl rfl (by rfl) (v := ?_) ?_ (a' := ?_) ?_ ?_; rotate_left; (focus (intro w'; go_simp; with_reducible rfl)); rotate_left; (focus ((try simp only [Act.put, List.setIfInBounds_toArray, List.set_cons_zero, List.set_cons_succ, i64_w, i32_w]); rfl))) | (refine c_off rfl rfl (by rfl) (a' := ?_) ?_ ?_; rotate_left; (focus ((try simp only [Act.put, List.setIfInBounds_toArray, List.set_cons_zero, List.set_cons_succ, i64_w, i32_w]); rfl))))
          refine c_done ?_
          go_wp2_with (fail)
          obtain ⟨wq, rfl⟩ : ∃ wq, wq = w3 := ⟨_, rfl⟩
          go_loopw [15] (fun u w' => ∃ j : Nat, u = .int .i64 j ∧ j ≤ l.length ∧ Aside0 (Below wq.heap.size wq w')) (fun u _ => l.length - (intOf u).toNat)
          case atStart => exact ⟨0, rfl, by omega, ⟨Below.refl _ _⟩⟩
          case round =>
            obtain ⟨j, rfl, hj, HJ⟩ := hrel
            by_cases hl : j < l.length
            · obtain ⟨hx1, hx2, hCa⟩ := Kd.R_reads' (Kd.R_below RA3.out HJ.out)
              obtain ⟨ad, rfl, a0, a1, a2, a3⟩ := at_T31 hCa j (by omega) (by omega)
              clear hx1 hx2 hCa
              obtain ⟨hx1, hx2, hCc⟩ := Kd.R_reads' (Kd.R_below RB3.out HJ.out)
              obtain ⟨ac, rfl, c0, c1, c2, c3⟩ := at_T31 hCc j (by omega) (by omega)
              clear hx1 hx2 hCc
              obtain ⟨t, t0, t1, ht⟩ := RD.out j (by omega) (by omega)
              have hq := OK.out _ (rd_mem l j (by omega) (by omega))
              obtain ⟨n, hn⟩ : ∃ n : Nat, ((j : Int)).toNat * 4 = n := ⟨_, rfl⟩
              rw [hn] at a0 a1 a2 a3
              rw [hn, ht] at c0 c1 c2 c3
              obtain ⟨y, hy⟩ : ∃ y, rd_T31 l j = y := ⟨_, rfl⟩
              rw [hy] at a0 a1 a2 a3 c0 c1 c2 c3 hq
              replace c0 : wr.cell? (ac.add n) = some (.int .i64 y.f0) := c0
              replace c1 : wr.cell? ⟨(ac.add n).block, (ac.add n).off + 1, none⟩ = some (.string y.f1) := c1
              replace c2 : wr.cell? ⟨(ac.add n).block, (ac.add n).off + 2, none⟩ = some (.int .i64 y.f2) := c2
              replace c3 : wr.cell? ⟨(ac.add n).block, (ac.add n).off + 3, none⟩ = some (.int .i64 (y.f3 + t)) := c3
              clear ht hy
              have d1 : decide (y.f3 + t < y.f3) = false := decide_eq_false (by omega)
              have d2 : decide (y.f3 + 1 < y.f3 + t) = false := decide_eq_false (by omega)
              have d3 : decide (t < 0) = false := decide_eq_false (by omega)
              have d4 : decide (1 < t) = false := decide_eq_false (by omega)
              have hw : wrap64 (y.f3 + 1) = y.f3 + 1 := wrap64_id _ (by omega)
              have hia := fun (W : World) => ix31 ad l.length ca (j : Int) n W (by omega) (by omega) hn
              have hic := fun (W : World) => ix31 ac l.length cb (j : Int) n W (by omega) (by omega) hn
              have HW5 := Aside0.mk (show wrap64 ((j : Int) + 1) = (j : Int) + 1 from wrap64_id _ (by have := HL.out; omega))
              clear t0 t1 hq hn
              go_wp2_with (fail)
              go_quiet (fail)
              have hw5 := HW5.out
              go_wp2
              go_roundw
              case rel => exact ⟨j + 1, congrArg (Value.int .i64) (HW5.out.trans (Int.natCast_succ j).symm), Nat.succ_le_of_lt hl, ⟨pw_below_drewN HJ.out _⟩⟩
              case measure => exact meas1 hl HW5.out
            · go_wp2_with (fail)
              refine (awake_calls _).mono ?_
              rintro e wz ⟨rfl, hBz⟩
              have HBz := Aside0.mk (below_step (below_step HB3.out HJ.out) hBz)
              clear hBz
              go_wp2
              go_ret
              exact ⟨rfl, HBz.out⟩
        · have t10 : ((((bs S)[k]'(show k < (bs S).size by rw [bs_size]; exact hlt)).toNat : Int) == 10) = false := beq_eq_false_iff_ne.mpr (by rw [hbt]; omega)
          clear hbt h10
          go_wp2
          exact ⟨⟨k + 1, by go_num, by omega, trivial⟩, by simp only [intOf]; omega⟩
      · have hAE := atEnd_drop S k hk (fun h => absurd h hlt)
        go_wp2_with (fail)
        refine (Place_calls _ _ _ (by omega) (by omega)).mono ?_
        rintro e w' ⟨rfl, rfl⟩
        have j0 : 0 ≤ which % 4 := by omega
        have j1 : which % 4 < 4 := by omega
        revert j0 j1
        generalize which % 4 = jj
        intro j0 j1
        have hpk := pick4 jj j0 j1
        obtain ⟨N, hN⟩ : ∃ N, jj.toNat = N := ⟨_, rfl⟩
        rw [hN] at hpk
        clear j0 j1 hN
        have hs1 := sl1 S k hk
        have hs2 := sl2 S k hk
        have e2 : (bs (S.take k)).size = k := by rw [bs_size, List.length_take, Nat.min_eq_left hk]
        have e3 : (bs (S.drop k)).size = S.length - k := by rw [bs_size, List.length_drop]
        obtain ⟨P, hP⟩ : ∃ P, (bs (piece N)).size = P := ⟨_, rfl⟩
        have e4 : P ≤ 13 := by rw [← hP, bs_size]; exact piece_len N
        obtain ⟨m, hm, hml, hok, hrd⟩ := blanks_all (S.take k) (S.drop k) (by rw [← List.length_append, List.take_append_drop]; omega) hAE N l (by rw [List.take_append_drop]; exact H1.out)
        have M := Aside0.mk hm
        have OK := Aside0.mk hok
        have RD := Aside0.mk hrd
        have ML := Aside0.mk hml
        clear hm hok hrd hml H1 hAE
        go_wp2_with (fail)
        refine canon [(0,1),(1,1),(2,1),(3,1),(4,1),(5,1),(6,1),(7,1),(8,1),(9,0),(10,1),(11,1),(12,1),(13,1),(14,1),(15,1),(16,1)] [] (fun _ => True) (by kernel_rfl) rfl rfl (by kernel_rfl) (by intro c d v a w h; cases d <;> exact h) ?_
        intro w2 hb2 _
        have RA2 := Aside0.mk (Kd.R_below RA.out hb2)
        have HB2 := Aside0.mk (below_step HB1.out hb2)
        clear hb2 RA HB1
        have q1 : ¬ (9223372036854775807 < k + P) := by omega
        have q2 : ¬ (9223372036854775807 < k + P + (S.length - k)) := by omega
        repeat (first | (refine c_pure rfl rfl (by rfl) (v := ?_) ?_ (a' := ?_) ?_ ?_; rotate_left; (focus (intro w'; go_simp; with_reducible rfl)); rotate_left; (focus ((try simp only [Act.put, List.setIfInBounds_toArray, List.set_cons_zero, List.set_cons_succ, i64_w, i32_w]); rfl))) | (refine c_off rfl rfl (by rfl) (a' := ?_) ?_ ?_; rotate_left; (focus ((try simp only [Act.put, List.setIfInBounds_toArray, List.set_cons_zero, List.set_cons_succ, i64_w, i32_w]); rfl))))
        clear q1 q2
        refine c_eff rfl (fun K hK => ?_)
        go_simp
        refine (All_calls _ _).mono ?_
        rintro e w3 ⟨hB3, hp⟩
        rw [bs_append, bs_append, List.append_assoc, M.out] at hp
        obtain ⟨vb, rfl, hRb, hlb⟩ := hp
        obtain ⟨Ab, cb, rfl⟩ := Kd.R_slice hRb
        refine hK _ _ (fun _ => trivial) ?_
        clear hK K hlb
        rw [ML.out] at hRb ⊢
        have RB3 := Aside0.mk hRb
        have RA3 := Aside0.mk (Kd.R_below RA2.out hB3)
        have HB3 := Aside0.mk (below_step HB2.out hB3)
        have HL := Aside0.mk (show l.length ≤ 4002 by omega)
        clear hRb RA2 HB2 hB3 hs1 hs2 e2 e3 e4 hP hpk M ML hla hS
        (refine c_norm (a' := ?_) ?_ ?_; rotate_left; (focus ((try simp only [Act.put, List.setIfInBounds_toArray, List.set_cons_zero, List.set_cons_succ, i64_w, i32_w]); rfl)))
        repeat (first | (refine c_pure rfl rfl (by rfl) (v := ?_) ?_ (a' := ?_) ?_ ?_; rotate_left; (focus (intro w'; go_simp; with_reducible rfl)); rotate_left; (focus ((try simp only [Act.put, List.setIfInBounds_toArray, List.set_cons_zero, List.set_cons_succ, i64_w, i32_w]); rfl))) | (refine c_off rfl rfl (by rfl) (a' := ?_) ?_ ?_; rotate_left; (focus ((try simp only [Act.put, List.setIfInBounds_toArray, List.set_cons_zero, List.set_cons_succ, i64_w, i32_w]); rfl))))
        refine c_done ?_
        go_wp2_with (fail)
        obtain ⟨wq, rfl⟩ : ∃ wq, wq = w3 := ⟨_, rfl⟩
        go_loopw [15] (fun u w' => ∃ j : Nat, u = .int .i64 j ∧ j ≤ l.length ∧ Aside0 (Below wq.heap.size wq w')) (fun u _ => l.length - (intOf u).toNat)
        case atStart => exact ⟨0, rfl, by omega, ⟨Below.refl _ _⟩⟩
        case round =>
          obtain ⟨j, rfl, hj, HJ⟩ := hrel
          by_cases hl : j < l.length
          · obtain ⟨hx1, hx2, hCa⟩ := Kd.R_reads' (Kd.R_below RA3.out HJ.out)
            obtain ⟨ad, rfl, a0, a1, a2, a3⟩ := at_T31 hCa j (by omega) (by omega)
            clear hx1 hx2 hCa
            obtain ⟨hx1, hx2, hCc⟩ := Kd.R_reads' (Kd.R_below RB3.out HJ.out)
            obtain ⟨ac, rfl, c0, c1, c2, c3⟩ := at_T31 hCc j (by omega) (by omega)
            clear hx1 hx2 hCc
            obtain ⟨t, t0, t1, ht⟩ := RD.out j (by omega) (by omega)
            have hq := OK.out _ (rd_mem l j (by omega) (by omega))
            obtain ⟨n, hn⟩ : ∃ n : Nat, ((j : Int)).toNat * 4 = n := ⟨_, rfl⟩
            rw [hn] at a0 a1 a2 a3
            rw [hn, ht] at c0 c1 c2 c3
            obtain ⟨y, hy⟩ : ∃ y, rd_T31 l j = y := ⟨_, rfl⟩
            rw [hy] at a0 a1 a2 a3 c0 c1 c2 c3 hq
            replace c0 : wr.cell? (ac.add n) = some (.int .i64 y.f0) := c0
            replace c1 : wr.cell? ⟨(ac.add n).block, (ac.add n).off + 1, none⟩ = some (.string y.f1) := c1
            replace c2 : wr.cell? ⟨(ac.add n).block, (ac.add n).off + 2, none⟩ = some (.int .i64 y.f2) := c2
            replace c3 : wr.cell? ⟨(ac.add n).block, (ac.add n).off + 3, none⟩ = some (.int .i64 (y.f3 + t)) := c3
            clear ht hy
            have d1 : decide (y.f3 + t < y.f3) = false := decide_eq_false (by omega)
            have d2 : decide (y.f3 + 1 < y.f3 + t) = false := decide_eq_false (by omega)
            have d3 : decide (t < 0) = false := decide_eq_false (by omega)
            have d4 : decide (1 < t) = false := decide_eq_false (by omega)
            have hw : wrap64 (y.f3 + 1) = y.f3 + 1 := wrap64_id _ (by omega)
            have hia := fun (W : World) => ix31 ad l.length ca (j : Int) n W (by omega) (by omega) hn
            have hic := fun (W : World) => ix31 ac l.length cb (j : Int) n W (by omega) (by omega) hn
            have HW5 := Aside0.mk (show wrap64 ((j : Int) + 1) = (j : Int) + 1 from wrap64_id _ (by have := HL.out; omega))
            clear t0 t1 hq hn
            go_wp2_with (fail)
            go_quiet (fail)
            have hw5 := HW5.out
            go_wp2
            go_roundw
            case rel => exact ⟨j + 1, congrArg (Value.int .i64) (HW5.out.trans (Int.natCast_succ j).symm), Nat.succ_le_of_lt hl, ⟨pw_below_drewN HJ.out _⟩⟩
            case measure => exact meas1 hl HW5.out
          · go_wp2_with (fail)
            refine (awake_calls _).mono ?_
            rintro e wz ⟨rfl, hBz⟩
            have HBz := Aside0.mk (below_step (below_step HB3.out HJ.out) hBz)
            clear hBz
            go_wp2
            go_ret
            exact ⟨rfl, HBz.out⟩
theorem LexBlanks_row (s : ByteArray) (a b : Int) (w : World) :
    Calls Try.prog 4 #[.string s, .int .i64 a, .int .i64 b] w fun e w' => e = .returned (.bool true) ∧ Below w.heap.size w w' := by
  have h := LexBlanks_calls (bl s) a b w
  rw [bs_bl] at h
  exact h
end Go.Proofs.Ythnmaaoafogbiaa.LexBlanks
