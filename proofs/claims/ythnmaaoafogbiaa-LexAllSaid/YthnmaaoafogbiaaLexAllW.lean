/- The walk of LexAll. -/
import Derived.Test.YthnmaaoafogbiaaLexA3
namespace Go.Proofs.Ythnmaaoafogbiaa.LexAll
set_option linter.unusedSimpArgs false
set_option linter.unusedVariables false
open Go.RowKit Go.Proofs.YthnmaaoafogbiaaW.PrintWords Go.Proofs.YthnmaaoafogbiaaW.PrintLast Go.Proofs.YthnmaaoafogbiaaW.PrintMore PLexAll Go.Proofs.YthnmaaoafogbiaaW.Canon Lex
attribute [local go_sem] max2_mx min2_mn max_two min_two max_three min_three max_four min_four

theorem sl22 : Try.prog.underlying 22 = some (.slice (Try.prog.elem 22)) := by kernel_rfl
theorem sz22 (w : World) : (sizeOf (Try.prog.elem 22)).run Try.prog w = .ok 4 w := by rfl
theorem ix22 (ad : Addr) (len : Nat) (c : Nat) (i : Int) (n : Nat) (W : World) (h0 : 0 ≤ i) (h1 : i < len) (hn : i.toNat * 4 = n) :
    (Instr.indexAt 22 (.slice (some ad) len c) (.int .i64 i)).run Try.prog W = .ok (.pointer (some (ad.add n))) W := by
  rw [run_indexAt_slice (h := sl22), if_pos ⟨h0, h1⟩, sz22, ← hn]
  rfl
theorem sl26 : Try.prog.underlying 26 = some (.slice (Try.prog.elem 26)) := by kernel_rfl
theorem sz26 (w : World) : (sizeOf (Try.prog.elem 26)).run Try.prog w = .ok 4 w := by rfl
theorem ix26 (ad : Addr) (len : Nat) (c : Nat) (i : Int) (n : Nat) (W : World) (h0 : 0 ≤ i) (h1 : i < len) (hn : i.toNat * 4 = n) :
    (Instr.indexAt 26 (.slice (some ad) len c) (.int .i64 i)).run Try.prog W = .ok (.pointer (some (ad.add n))) W := by
  rw [run_indexAt_slice (h := sl26), if_pos ⟨h0, h1⟩, sz26, ← hn]
  rfl
theorem meas1 {n j : Nat} {W : Int} (h : j < n) (hW : W = j + 1) : n - (intOf (.int .i64 W)).toNat < n - (intOf (.int .i64 (j : Int))).toNat := by simp only [intOf]; omega
theorem allT_len {S : List UInt8} {l : List S31} (h : allT (bs S) = .inr l) : S.length ≤ 8192 := by
  by_cases hb : 8192 < (bs S).size
  · rw [allT, if_pos hb] at h; cases h
  · have := bs_size S; omega

set_option maxRecDepth 20000 in
set_option maxHeartbeats 1000000 in
theorem LexAll_calls (S : List UInt8) (w : World) :
    Calls Try.prog 3 #[.string (bs S)] w fun e w' => e = .returned (.bool true) ∧ Below w.heap.size w w' := by
  go_enter Try.func3, Try.ntmps3
  go_wp2_with (fail)
  refine (All_calls _ _).mono ?_
  rintro e w1 ⟨hB1, hp⟩
  rcases hA : allT (bs S) with ⟨n, er⟩ | l
  · rw [hA] at hp
    replace hp : e = .returned (.tuple #[.slice none 0 0, .int .i64 n, .int .i64 er]) := hp
    subst hp
    have HB1 := Aside0.mk hB1
    have HA := Aside0.mk hA
    clear hB1 hA
    go_wp2_with (fail)
    refine (Ref_calls _ _).mono ?_
    rintro e w2 ⟨hB2, hp⟩
    rw [HA.out] at hp
    replace hp : e = .returned (.tuple #[.slice none 0 0, .int .i64 n, .int .i64 er]) := hp
    subst hp
    have HB2 := Aside0.mk (below_step HB1.out hB2)
    clear hB2 HB1 HA
    go_wp2_with (fail)
    go_loopw [9] (fun u w' => u = .int .i64 0 ∧ w' = w2) (fun _ _ => 0)
    case atStart => exact ⟨rfl, rfl⟩
    case round =>
      obtain ⟨rfl, rfl⟩ := hrel
      go_wp2_with (fail)
      refine (awake_calls _).mono ?_
      rintro e wz ⟨rfl, hBz⟩
      have HBz := Aside0.mk (below_step HB2.out hBz)
      clear hBz
      go_wp2
      go_ret
      exact ⟨rfl, HBz.out⟩
  · have hS := allT_len hA
    rw [hA] at hp
    obtain ⟨va, rfl, hRa, hla⟩ := hp
    obtain ⟨Aa, ca, rfl⟩ := Kd.R_slice hRa
    rw [bs_size] at hla
    have HL := Aside0.mk (show l.length ≤ 16386 by omega)
    have RA := Aside0.mk hRa
    have HB1 := Aside0.mk hB1
    have HA := Aside0.mk hA
    clear hB1 hRa hla hA hS
    go_wp2_with (fail)
    refine (Ref_calls _ _).mono ?_
    rintro e w2 ⟨hB2, hp⟩
    rw [HA.out] at hp
    obtain ⟨vb, rfl, hRb, _⟩ := hp
    obtain ⟨Ab, cb, rfl⟩ := Kd.R_slice hRb
    have RB := Aside0.mk hRb
    have RA2 := Aside0.mk (Kd.R_below RA.out hB2)
    have HB2 := Aside0.mk (below_step HB1.out hB2)
    clear hB2 HB1 HA hRb RA
    go_wp2_with (fail)
    obtain ⟨wq, rfl⟩ : ∃ wq, wq = w2 := ⟨_, rfl⟩
    go_loopw [9] (fun u w' => ∃ j : Nat, u = .int .i64 j ∧ j ≤ l.length ∧ Aside0 (Below wq.heap.size wq w')) (fun u _ => l.length - (intOf u).toNat)
    case atStart => exact ⟨0, rfl, by omega, ⟨Below.refl _ _⟩⟩
    case round =>
      obtain ⟨j, rfl, hj, HJ⟩ := hrel
      by_cases hl : j < l.length
      · obtain ⟨hx1, hx2, hCa⟩ := Kd.R_reads' (Kd.R_below RA2.out HJ.out)
        obtain ⟨ad, rfl, a0, a1, a2, a3⟩ := at_T31 hCa j (by omega) (by omega)
        clear hx1 hx2 hCa
        obtain ⟨hx1, hx2, hCc⟩ := Kd.R_reads' (Kd.R_below RB.out HJ.out)
        obtain ⟨ac, rfl, c0, c1, c2, c3⟩ := at_T31 hCc j (by omega) (by omega)
        clear hx1 hx2 hCc
        obtain ⟨n, hn⟩ : ∃ n : Nat, ((j : Int)).toNat * 4 = n := ⟨_, rfl⟩
        rw [hn] at a0 a1 a2 a3 c0 c1 c2 c3
        obtain ⟨y, hy⟩ : ∃ y, rd_T31 l j = y := ⟨_, rfl⟩
        rw [hy] at a0 a1 a2 a3 c0 c1 c2 c3
        clear hy
        have hia := fun (W : World) => ix22 ad l.length ca (j : Int) n W (by omega) (by omega) hn
        have hic := fun (W : World) => ix26 ac l.length cb (j : Int) n W (by omega) (by omega) hn
        have HW5 := Aside0.mk (show wrap64 ((j : Int) + 1) = (j : Int) + 1 from wrap64_id _ (by have := HL.out; omega))
        clear hn
        go_wp2_with (fail)
        go_quiet (fail)
        have hw5 := HW5.out
        go_wp2
        go_roundw
        case rel => exact ⟨j + 1, congrArg (Value.int .i64) (HW5.out.trans (Int.natCast_succ j).symm), Nat.succ_le_of_lt hl, ⟨pw_below_drewN HJ.out _⟩⟩
        case measure => exact meas1 hl HW5.out
      · go_wp2_with (fail)
        refine (awake_calls _).mono ?_
        rintro e wz ⟨rfl, hBz⟩
        have HBz := Aside0.mk (below_step (below_step HB2.out HJ.out) hBz)
        clear hBz
        go_wp2
        go_ret
        exact ⟨rfl, HBz.out⟩
theorem LexAll_row (s : ByteArray) (w : World) :
    Calls Try.prog 3 #[.string s] w fun e w' => e = .returned (.bool true) ∧ Below w.heap.size w w' := by
  have h := LexAll_calls (bl s) w
  rw [bs_bl] at h
  exact h
end Go.Proofs.Ythnmaaoafogbiaa.LexAll
