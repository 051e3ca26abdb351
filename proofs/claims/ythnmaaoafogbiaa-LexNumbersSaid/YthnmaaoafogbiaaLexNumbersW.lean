/- The walk of LexNumbers. -/
import Derived.Test.YthnmaaoafogbiaaLex8
namespace Go.Proofs.Ythnmaaoafogbiaa.LexNumbers
set_option linter.unusedSimpArgs false
set_option linter.unusedVariables false
open Go.RowKit Go.Proofs.YthnmaaoafogbiaaW.PrintWords Go.Proofs.YthnmaaoafogbiaaW.PrintLast Go.Proofs.YthnmaaoafogbiaaW.PrintMore PLexAll Go.Proofs.YthnmaaoafogbiaaW.Canon Lex
attribute [local go_sem] max2_mx min2_mn max_two min_two max_three min_three max_four min_four

/-- What the digits so far are. -/
structure Dgs (M d : Int) (ds : List UInt8) : Prop where
  dg : ∀ c ∈ ds, isDg c
  nn : 0 ≤ d
  eq : d * 10 ^ ds.length + worth ds = M
  z : d = 0 → ds = []


theorem dig_slice (k : Int) (h0 : 0 ≤ k) (h1 : k ≤ 9) (W : World) :
    (Instr.slice 9 (.string ⟨#[48, 49, 50, 51, 52, 53, 54, 55, 56, 57]⟩) (some (.int .i64 k)) (some (.int .i64 (k + 1))) none).run Try.prog W = .ok (.string (bs [ch (48 + k)])) W := by
  have hk : k = 0 ∨ k = 1 ∨ k = 2 ∨ k = 3 ∨ k = 4 ∨ k = 5 ∨ k = 6 ∨ k = 7 ∨ k = 8 ∨ k = 9 := by omega
  rcases hk with rfl | rfl | rfl | rfl | rfl | rfl | rfl | rfl | rfl | rfl <;> rfl
theorem ch_dig (k : Int) (h0 : 0 ≤ k) (h1 : k ≤ 9) : ((ch (48 + k)).toNat : Int) = 48 + k := (ch_nat (48 + k) (by omega) (by omega)).1.symm
theorem Dgs.step {M d : Int} {ds : List UInt8} (h : Dgs M d ds) (h10 : 10 ≤ d) : Dgs M (d / 10) (ch (48 + d % 10) :: ds) := by
  have hc := ch_dig (d % 10) (by omega) (by omega)
  refine ⟨fun c hc' => ?_, by omega, ?_, fun h0 => by omega⟩
  · rcases List.mem_cons.mp hc' with rfl | hm
    · exact ⟨by omega, by omega⟩
    · exact h.dg c hm
  · rw [worth_cons, hc, List.length_cons, Int.pow_succ, ← h.eq]
    generalize (10 : Int) ^ ds.length = p
    have e : d = d / 10 * 10 + d % 10 := by omega
    generalize d / 10 = q at *
    generalize d % 10 = r at *
    subst e
    rw [Int.add_mul, show 48 + r - 48 = r by omega, ← Int.mul_assoc, Int.mul_right_comm]
    omega
theorem Dgs.len {M d : Int} {ds : List UInt8} (h : Dgs M d ds) (h10 : 10 ≤ d) (hM : M ≤ 4294967296) : ds.length + 1 ≤ 9 := by
  rcases Nat.lt_or_ge ds.length 9 with hl | hl
  · omega
  · exfalso
    have hp : (10 : Int) ^ 9 ≤ 10 ^ ds.length := by
      have := Nat.pow_le_pow_right (show 0 < 10 by decide) hl
      exact_mod_cast this
    have hw := worth_nonneg ds h.dg
    have he := h.eq
    have h3 : (10 : Int) * 10 ^ ds.length ≤ d * 10 ^ ds.length := Int.mul_le_mul_of_nonneg_right h10 (by omega)
    have h9 : (10 : Int) ^ 9 = 1000000000 := by decide
    omega
theorem Dgs.last {M d : Int} {ds : List UInt8} (h : Dgs M d ds) (h9 : d ≤ 9) : (∀ c ∈ ch (48 + d) :: ds, isDg c) ∧ worth (ch (48 + d) :: ds) = M := by
  have hc := ch_dig d h.nn h9
  have hn := h.nn
  refine ⟨fun c hc' => ?_, ?_⟩
  · rcases List.mem_cons.mp hc' with rfl | hm
    · exact ⟨by omega, by omega⟩
    · exact h.dg c hm
  · rw [worth_cons, hc, ← h.eq, show 48 + d - 48 = d by omega]
theorem zero_worth {M : Int} {zs : List UInt8} (h : (∀ c ∈ zs, isDg c) ∧ worth zs = M) : (∀ c ∈ (48 : UInt8) :: zs, isDg c) ∧ worth (48 :: zs) = M := by
  refine ⟨fun c hc' => ?_, ?_⟩
  · rcases List.mem_cons.mp hc' with rfl | hm
    · exact ⟨by decide, by decide⟩
    · exact h.1 c hm
  · rw [worth_cons, h.2]
    have : (((48 : UInt8).toNat : Int) - 48) = 0 := by decide
    rw [this]
    omega
theorem Dgs.start (M : Int) (h : 0 ≤ M) : Dgs M M [] := ⟨by simp, h, by simp [worth], fun _ => rfl⟩
set_option maxHeartbeats 1000000 in
theorem LexNumbers_calls (v zeros : Int) (w : World) :
    Calls Try.prog 5 #[.int .i64 v, .int .i64 zeros] w fun e w' => e = .returned (.bool true) ∧ Below w.heap.size w w' := by
  go_enter Try.func5, Try.ntmps5
  go_wp2_with (fail)
  refine (Place_calls _ _ _ (by omega) (by omega)).mono ?_
  rintro e w' ⟨rfl, rfl⟩
  have m0 : 0 ≤ v % 8589934592 := by omega
  have m1 : v % 8589934592 < 8589934592 := by omega
  revert m0 m1
  generalize v % 8589934592 = n0
  intro m0 m1
  obtain ⟨n, rfl⟩ : ∃ n, n0 = n + 4294967296 := ⟨n0 - 4294967296, by omega⟩
  have hw : wrap64 (n + 4294967296 - 4294967296) = n := by rw [show n + 4294967296 - 4294967296 = n by omega]; exact wrap64_id _ (by omega)
  by_cases hneg : n < 0
  · have hw2 : wrap64 (-n) = -n := wrap64_id _ (by omega)
    have hM0 : 0 ≤ -n := by omega
    have hM1 : -n ≤ 4294967296 := by omega
    go_wp2
    go_loopw [6, 7] (fun x y w' => ∃ (d : Int) (ds : List UInt8), x = .int .i64 d ∧ y = .string (bs ds) ∧ Aside0 (Dgs (-n) d ds) ∧ 0 ≤ d ∧ d ≤ 4294967296 ∧ ds.length ≤ 9 ∧ w' = w) (fun x _ _ => (intOf x).toNat)
    case atStart => exact ⟨_, [], rfl, rfl, ⟨Dgs.start _ hM0⟩, hM0, hM1, by decide, rfl⟩
    case round =>
      obtain ⟨d, ds, rfl, rfl, HD, hd0, hd1, hdl, rfl⟩ := hrel
      have e1 : (bs ds).size = ds.length := rfl
      have e2 : ∀ c, (bs [c]).size = 1 := fun _ => rfl
      by_cases h10 : 10 ≤ d
      · have ht : d.tmod 10 = d % 10 := Int.tmod_eq_emod_of_nonneg hd0
        have ht2 : d.tdiv 10 = d / 10 := Int.tdiv_eq_ediv_of_nonneg hd0
        have k0 : 0 ≤ d % 10 := by omega
        have k1 : d % 10 ≤ 9 := by omega
        have hsl := dig_slice (d % 10) k0 k1
        go_wp2
        exact ⟨⟨d / 10, ch (48 + d % 10) :: ds, rfl, by rw [bs_append]; rfl, ⟨HD.out.step h10⟩, by omega, by omega, HD.out.len h10 hM1, trivial⟩, by simp only [intOf]; omega⟩
      · have hsl := dig_slice d hd0 (by omega)
        have HE := Aside0.mk (HD.out.last (show d ≤ 9 by omega))
        go_wp2_with (fail)
        refine (Place_calls _ _ _ (by omega) (by omega)).mono ?_
        rintro e w' ⟨rfl, rfl⟩
        have z0 : 0 ≤ zeros % 9 := by omega
        have z1 : zeros % 9 ≤ 8 := by omega
        revert z0 z1
        generalize zeros % 9 = z
        intro z0 z1
        obtain ⟨Z, rfl⟩ : ∃ Z : Nat, z = Z := ⟨z.toNat, by omega⟩
        rw [bs_append]
        go_wp2
        obtain ⟨DS, hDS⟩ : ∃ DS, DS = ch (48 + d) :: ds := ⟨_, rfl⟩
        have HF : Aside0 ((∀ c ∈ DS, isDg c) ∧ worth DS = (-n)) := ⟨by rw [hDS]; exact HE.out⟩
        have hDl : DS.length ≤ 10 := by rw [hDS, List.length_cons]; omega
        have hDn : DS ≠ [] := by rw [hDS]; simp
        rw [← hDS]
        have HDn := Aside0.mk hDn
        clear hDS HE HD hdl e1 hDn hsl
        go_loopw [7, 8] (fun x y w' => ∃ (k : Nat) (zs : List UInt8), x = .string (bs zs) ∧ y = .int .i64 k ∧ Aside0 ((∀ c ∈ zs, isDg c) ∧ worth zs = (-n)) ∧ Aside0 (zs ≠ []) ∧ k ≤ 8 ∧ zs.length + k ≤ 18 ∧ w' = wr) (fun _ y _ => (intOf y).toNat)
        case atStart => exact ⟨Z, DS, rfl, rfl, HF, HDn, by omega, by omega, rfl⟩
        case round =>
          obtain ⟨k, zs, rfl, rfl, HF, HZ, hk8, hzl, rfl⟩ := hrel
          have e1 : (bs zs).size = zs.length := rfl
          by_cases hk : 0 < k
          · have hwk : wrap64 ((k : Int) - 1) = (k : Int) - 1 := wrap64_id _ (by omega)
            go_wp2
            exact ⟨⟨k - 1, 48 :: zs, by rw [show (⟨#[48]⟩ : ByteArray) = bs [48] from rfl, bs_append]; rfl, by go_num, ⟨zero_worth HF.out⟩, ⟨by simp⟩, by omega, by simp only [List.length_cons]; omega, trivial⟩, by simp only [intOf]; omega⟩
          · obtain rfl : k = 0 := by omega
            obtain ⟨q1, q2⟩ := all_num true zs HF.out.1 HZ.out (by omega) n (by rw [HF.out.2]; (rw [if_pos rfl]; omega))
            have es1 : (⟨#[10]⟩ : ByteArray) ++ (⟨#[45]⟩ ++ bs zs) = bs (numText true zs) := ((congrArg (bs [10] ++ ·) (bs_append [45] zs)).trans (bs_append [10] ([45] ++ zs)))
            have es2 : ((⟨#[10]⟩ : ByteArray) ++ (⟨#[45]⟩ ++ bs zs)) ++ ⟨#[120]⟩ = bs (numText true zs ++ [120]) := by rw [es1]; exact bs_append _ _
            have ES1 := Aside0.mk es1
            have ES2 := Aside0.mk es2
            have Q1 := Aside0.mk q1
            have Q2 := Aside0.mk q2
            clear q1 q2 es1 es2
            by_cases hb : n < -2147483648 ∨ 2147483648 ≤ n
            · have hq := Q1.out
              rw [if_pos hb] at hq
              have HQ := Aside0.mk hq
              clear hq Q1
              rcases hb with hb | hb
              · go_wp2_with (fail)
                refine (All_calls _ _).mono ?_
                rintro e w1 ⟨hB1, hp⟩
                rw [ES1.out, HQ.out] at hp
                replace hp : e = .returned (.tuple #[.slice none 0 0, .int .i64 2, .int .i64 3]) := hp
                subst hp
                have HB1 := Aside0.mk hB1
                clear hB1
                go_wp2_with (fail)
                refine (All_calls _ _).mono ?_
                rintro e w2 ⟨hB2, hp⟩
                rw [ES2.out, Q2.out] at hp
                replace hp : e = .returned (.tuple #[.slice none 0 0, .int .i64 2, .int .i64 3]) := hp
                subst hp
                have HB2 := Aside0.mk (below_step HB1.out hB2)
                clear hB2 HB1
                go_wp2_with (fail)
                refine (awake_calls _).mono ?_
                rintro e w3 ⟨rfl, hB3⟩
                have HB3 := Aside0.mk (below_step HB2.out hB3)
                clear hB3 HB2
                go_wp2
                go_ret
                exact ⟨rfl, HB3.out⟩
              · omega
            · have hq := Q1.out
              rw [if_neg hb] at hq
              have HQ := Aside0.mk hq
              obtain ⟨hb1, hb2⟩ : -2147483648 ≤ n ∧ n < 2147483648 := by omega
              clear hq Q1 hb
              go_wp2_with (fail)
              refine (All_calls _ _).mono ?_
              rintro e w1 ⟨hB1, hp⟩
              rw [ES1.out, HQ.out] at hp
              obtain ⟨vl, rfl, hR, _⟩ := hp
              obtain ⟨A1, c1, hv⟩ := Kd.R_slice hR
              replace hv : vl = .slice A1 2 c1 := hv
              subst hv
              have HR := Aside0.mk hR
              have HB1 := Aside0.mk hB1
              clear hB1 hR
              go_wp2_with (fail)
              refine (All_calls _ _).mono ?_
              rintro e w2 ⟨hB2, hp⟩
              rw [ES2.out, Q2.out] at hp
              replace hp : e = .returned (.tuple #[.slice none 0 0, .int .i64 2, .int .i64 3]) := hp
              subst hp
              obtain ⟨_, _, hC⟩ := Kd.R_reads' (Kd.R_below HR.out hB2)
              obtain ⟨ad, rfl, a0, _, a2, a3⟩ := at_T31 hC 0 (by decide) (show (0 : Int) < 2 by decide)
              have HB2 := Aside0.mk (below_step HB1.out hB2)
              simp only [rd_T31, List.getD_cons_zero, Int.reduceToNat, Nat.reduceMul] at a0 a2 a3
              rw [show ad.add 0 = ad by simp [Addr.add]] at a0 a2 a3
              clear hB2 hC HR HB1
              go_wp2_with (fail)
              refine (awake_calls _).mono ?_
              rintro e w3 ⟨rfl, hB3⟩
              have HB3 := Aside0.mk (below_step HB2.out hB3)
              clear hB3 HB2
              go_wp2
              go_ret
              exact ⟨rfl, HB3.out⟩
  · have hM0 : 0 ≤ n := by omega
    have hM1 : n ≤ 4294967296 := by omega
    go_wp2
    go_loopw [6, 7] (fun x y w' => ∃ (d : Int) (ds : List UInt8), x = .int .i64 d ∧ y = .string (bs ds) ∧ Aside0 (Dgs n d ds) ∧ 0 ≤ d ∧ d ≤ 4294967296 ∧ ds.length ≤ 9 ∧ w' = w) (fun x _ _ => (intOf x).toNat)
    case atStart => exact ⟨_, [], rfl, rfl, ⟨Dgs.start _ hM0⟩, hM0, hM1, by decide, rfl⟩
    case round =>
      obtain ⟨d, ds, rfl, rfl, HD, hd0, hd1, hdl, rfl⟩ := hrel
      have e1 : (bs ds).size = ds.length := rfl
      have e2 : ∀ c, (bs [c]).size = 1 := fun _ => rfl
      by_cases h10 : 10 ≤ d
      · have ht : d.tmod 10 = d % 10 := Int.tmod_eq_emod_of_nonneg hd0
        have ht2 : d.tdiv 10 = d / 10 := Int.tdiv_eq_ediv_of_nonneg hd0
        have k0 : 0 ≤ d % 10 := by omega
        have k1 : d % 10 ≤ 9 := by omega
        have hsl := dig_slice (d % 10) k0 k1
        go_wp2
        exact ⟨⟨d / 10, ch (48 + d % 10) :: ds, rfl, by rw [bs_append]; rfl, ⟨HD.out.step h10⟩, by omega, by omega, HD.out.len h10 hM1, trivial⟩, by simp only [intOf]; omega⟩
      · have hsl := dig_slice d hd0 (by omega)
        have HE := Aside0.mk (HD.out.last (show d ≤ 9 by omega))
        go_wp2_with (fail)
        refine (Place_calls _ _ _ (by omega) (by omega)).mono ?_
        rintro e w' ⟨rfl, rfl⟩
        have z0 : 0 ≤ zeros % 9 := by omega
        have z1 : zeros % 9 ≤ 8 := by omega
        revert z0 z1
        generalize zeros % 9 = z
        intro z0 z1
        obtain ⟨Z, rfl⟩ : ∃ Z : Nat, z = Z := ⟨z.toNat, by omega⟩
        rw [bs_append]
        go_wp2
        obtain ⟨DS, hDS⟩ : ∃ DS, DS = ch (48 + d) :: ds := ⟨_, rfl⟩
        have HF : Aside0 ((∀ c ∈ DS, isDg c) ∧ worth DS = n) := ⟨by rw [hDS]; exact HE.out⟩
        have hDl : DS.length ≤ 10 := by rw [hDS, List.length_cons]; omega
        have hDn : DS ≠ [] := by rw [hDS]; simp
        rw [← hDS]
        have HDn := Aside0.mk hDn
        clear hDS HE HD hdl e1 hDn hsl
        go_loopw [7, 8] (fun x y w' => ∃ (k : Nat) (zs : List UInt8), x = .string (bs zs) ∧ y = .int .i64 k ∧ Aside0 ((∀ c ∈ zs, isDg c) ∧ worth zs = n) ∧ Aside0 (zs ≠ []) ∧ k ≤ 8 ∧ zs.length + k ≤ 18 ∧ w' = wr) (fun _ y _ => (intOf y).toNat)
        case atStart => exact ⟨Z, DS, rfl, rfl, HF, HDn, by omega, by omega, rfl⟩
        case round =>
          obtain ⟨k, zs, rfl, rfl, HF, HZ, hk8, hzl, rfl⟩ := hrel
          have e1 : (bs zs).size = zs.length := rfl
          by_cases hk : 0 < k
          · have hwk : wrap64 ((k : Int) - 1) = (k : Int) - 1 := wrap64_id _ (by omega)
            go_wp2
            exact ⟨⟨k - 1, 48 :: zs, by rw [show (⟨#[48]⟩ : ByteArray) = bs [48] from rfl, bs_append]; rfl, by go_num, ⟨zero_worth HF.out⟩, ⟨by simp⟩, by omega, by simp only [List.length_cons]; omega, trivial⟩, by simp only [intOf]; omega⟩
          · obtain rfl : k = 0 := by omega
            obtain ⟨q1, q2⟩ := all_num false zs HF.out.1 HZ.out (by omega) n (by rw [HF.out.2]; rfl)
            have es1 : (⟨#[10]⟩ : ByteArray) ++ bs zs = bs (numText false zs) := (bs_append [10] zs)
            have es2 : ((⟨#[10]⟩ : ByteArray) ++ bs zs) ++ ⟨#[120]⟩ = bs (numText false zs ++ [120]) := by rw [es1]; exact bs_append _ _
            have ES1 := Aside0.mk es1
            have ES2 := Aside0.mk es2
            have Q1 := Aside0.mk q1
            have Q2 := Aside0.mk q2
            clear q1 q2 es1 es2
            by_cases hb : n < -2147483648 ∨ 2147483648 ≤ n
            · have hq := Q1.out
              rw [if_pos hb] at hq
              have HQ := Aside0.mk hq
              clear hq Q1
              rcases hb with hb | hb
              · omega
              · go_wp2_with (fail)
                refine (All_calls _ _).mono ?_
                rintro e w1 ⟨hB1, hp⟩
                rw [ES1.out, HQ.out] at hp
                replace hp : e = .returned (.tuple #[.slice none 0 0, .int .i64 2, .int .i64 3]) := hp
                subst hp
                have HB1 := Aside0.mk hB1
                clear hB1
                go_wp2_with (fail)
                refine (All_calls _ _).mono ?_
                rintro e w2 ⟨hB2, hp⟩
                rw [ES2.out, Q2.out] at hp
                replace hp : e = .returned (.tuple #[.slice none 0 0, .int .i64 2, .int .i64 3]) := hp
                subst hp
                have HB2 := Aside0.mk (below_step HB1.out hB2)
                clear hB2 HB1
                go_wp2_with (fail)
                refine (awake_calls _).mono ?_
                rintro e w3 ⟨rfl, hB3⟩
                have HB3 := Aside0.mk (below_step HB2.out hB3)
                clear hB3 HB2
                go_wp2
                go_ret
                exact ⟨rfl, HB3.out⟩
            · have hq := Q1.out
              rw [if_neg hb] at hq
              have HQ := Aside0.mk hq
              obtain ⟨hb1, hb2⟩ : -2147483648 ≤ n ∧ n < 2147483648 := by omega
              clear hq Q1 hb
              go_wp2_with (fail)
              refine (All_calls _ _).mono ?_
              rintro e w1 ⟨hB1, hp⟩
              rw [ES1.out, HQ.out] at hp
              obtain ⟨vl, rfl, hR, _⟩ := hp
              obtain ⟨A1, c1, hv⟩ := Kd.R_slice hR
              replace hv : vl = .slice A1 2 c1 := hv
              subst hv
              have HR := Aside0.mk hR
              have HB1 := Aside0.mk hB1
              clear hB1 hR
              go_wp2_with (fail)
              refine (All_calls _ _).mono ?_
              rintro e w2 ⟨hB2, hp⟩
              rw [ES2.out, Q2.out] at hp
              replace hp : e = .returned (.tuple #[.slice none 0 0, .int .i64 2, .int .i64 3]) := hp
              subst hp
              obtain ⟨_, _, hC⟩ := Kd.R_reads' (Kd.R_below HR.out hB2)
              obtain ⟨ad, rfl, a0, _, a2, a3⟩ := at_T31 hC 0 (by decide) (show (0 : Int) < 2 by decide)
              have HB2 := Aside0.mk (below_step HB1.out hB2)
              simp only [rd_T31, List.getD_cons_zero, Int.reduceToNat, Nat.reduceMul] at a0 a2 a3
              rw [show ad.add 0 = ad by simp [Addr.add]] at a0 a2 a3
              clear hB2 hC HR HB1
              go_wp2_with (fail)
              refine (awake_calls _).mono ?_
              rintro e w3 ⟨rfl, hB3⟩
              have HB3 := Aside0.mk (below_step HB2.out hB3)
              clear hB3 HB2
              go_wp2
              go_ret
              exact ⟨rfl, HB3.out⟩
end Go.Proofs.Ythnmaaoafogbiaa.LexNumbers
