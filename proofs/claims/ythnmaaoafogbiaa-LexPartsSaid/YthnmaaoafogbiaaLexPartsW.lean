/- The walk of LexParts. -/
import Derived.Test.YthnmaaoafogbiaaLex10
import Derived.Test.YthnmaaoafogbiaaCanon2
namespace Go.Proofs.Ythnmaaoafogbiaa.LexParts
set_option linter.unusedSimpArgs false
set_option linter.unusedVariables false
open Go.RowKit Go.Proofs.YthnmaaoafogbiaaW.PrintWords Go.Proofs.YthnmaaoafogbiaaW.PrintLast Go.Proofs.YthnmaaoafogbiaaW.PrintMore PLexAll Go.Proofs.YthnmaaoafogbiaaW.Canon Lex
attribute [local go_sem] max2_mx min2_mn max_two min_two max_three min_three max_four min_four





theorem info30s : (Try.prog.info? 30).map (·.size) = some 4 := by kernel_rfl
theorem below_setRow {w0 w : World} {n g : Nat} (h : Below n w0 w) (hg : n ≤ g) (cs : Array Value) : Below n w0 (w.setRow g cs) :=
  h.trans ⟨rfl, rfl, rfl, by simp, fun k hk => setRow_other w g k cs (by omega)⟩
theorem sl22 : Try.prog.underlying 22 = some (.slice (Try.prog.elem 22)) := by kernel_rfl
theorem sz22 (w : World) : (sizeOf (Try.prog.elem 22)).run Try.prog w = .ok 4 w := by rfl
theorem ix31 (ad : Addr) (len : Nat) (c : Nat) (i : Int) (n : Nat) (W : World) (h0 : 0 ≤ i) (h1 : i < len) (hn : i.toNat * 4 = n) :
    (Instr.indexAt 22 (.slice (some ad) len c) (.int .i64 i)).run Try.prog W = .ok (.pointer (some (ad.add n))) W := by
  rw [run_indexAt_slice (h := sl22), if_pos ⟨h0, h1⟩, sz22, ← hn]
  rfl


theorem meas1 {n j : Nat} {W : Int} (h : j < n) (hW : W = j + 1) : n - (intOf (.int .i64 W)).toNat < n - (intOf (.int .i64 (j : Int))).toNat := by simp only [intOf]; omega
theorem meas2 {n x i : Nat} {W : Int} (h : x + i < n) (hW : W = (x : Int) + (i : Int) + 1) : n - (intOf (.int .i64 W)).toNat < n - (intOf (.int .i64 ((x : Int) + (i : Int)))).toNat := by simp only [intOf]; omega
theorem rel2 {x i : Nat} {W : Int} (hW : W = (x : Int) + (i : Int) + 1) : W = ((x + i + 1 : Nat) : Int) := by omega
theorem row4 {w : World} {b : Nat} {v0 v1 v2 v3 : Value} {ty : TypeId} (h : w.heap[b]? = some (.cells #[v0, v1, v2, v3] ty (0, 0))) :
    (w.cell? ⟨b, 0, none⟩ = some v0 ∧ w.cell? ⟨b, 1, none⟩ = some v1 ∧ w.cell? ⟨b, 2, none⟩ = some v2 ∧ w.cell? ⟨b, 3, none⟩ = some v3) ∧
    (w.frozen? ⟨b, 0, none⟩ = false ∧ w.frozen? ⟨b, 1, none⟩ = false ∧ w.frozen? ⟨b, 2, none⟩ = false ∧ w.frozen? ⟨b, 3, none⟩ = false) :=
  ⟨⟨cell_of_row w b 0 _ ty (0, 0) h, cell_of_row w b 1 _ ty (0, 0) h, cell_of_row w b 2 _ ty (0, 0) h, cell_of_row w b 3 _ ty (0, 0) h⟩, ⟨blk_frozen h 0, blk_frozen h 1, blk_frozen h 2, blk_frozen h 3⟩⟩
set_option maxRecDepth 20000 in
set_option maxHeartbeats 1000000 in
theorem LexParts_calls (S T : List UInt8) (w : World) :
    Calls Try.prog 8 #[.string (bs S), .string (bs T)] w fun e w' => e = .returned (.bool true) ∧ Below w.heap.size w w' := by
  by_cases hS : 1500 < S.length
  · have t1 : decide ((1500 : Int) < ((bs S).size : Int)) = true := decide_eq_true (by have hs0 := bs_size S; have ht0 := bs_size T; omega)
    go_enter Try.func8, Try.ntmps8
    go_wp2_with (fail)
    refine (awake_calls _).mono ?_
    rintro e wz ⟨rfl, hBz⟩
    have HBz := Aside0.mk (hBz)
    clear hBz
    go_wp2
    go_ret
    exact ⟨rfl, HBz.out⟩
  have t1 : decide ((1500 : Int) < ((bs S).size : Int)) = false := decide_eq_false (by have hs0 := bs_size S; have ht0 := bs_size T; omega)
  by_cases hT : 1500 < T.length
  · have t2 : decide ((1500 : Int) < ((bs T).size : Int)) = true := decide_eq_true (by have hs0 := bs_size S; have ht0 := bs_size T; omega)
    go_enter Try.func8, Try.ntmps8
    go_wp2_with (fail)
    refine (awake_calls _).mono ?_
    rintro e wz ⟨rfl, hBz⟩
    have HBz := Aside0.mk (hBz)
    clear hBz
    go_wp2
    go_ret
    exact ⟨rfl, HBz.out⟩
  have t2 : decide ((1500 : Int) < ((bs T).size : Int)) = false := decide_eq_false (by have hs0 := bs_size S; have ht0 := bs_size T; omega)
  rcases parts_all S T (by omega) (by omega) with ⟨n, m, h1, h2⟩ | ⟨a, n, h1, h2, h3, hn1, hn2⟩ | ⟨a, b, h1, h2, h3, ha, hb⟩
  · have H1 := Aside0.mk h1
    have H3 := Aside0.mk h2
    clear h1 h2
    go_enter Try.func8, Try.ntmps8
    go_wp2_with (fail)
    refine (All_calls _ _).mono ?_
    rintro e w1 ⟨hB1, hp⟩
    rw [H1.out] at hp
    replace hp : e = .returned (.tuple #[.slice none 0 0, .int .i64 n, .int .i64 3]) := hp
    subst hp
    have HB1 := Aside0.mk hB1
    clear hB1
    go_wp2_with (fail)
    refine (All_calls _ _).mono ?_
    rintro e w2 ⟨hB2, hp⟩
    have HB2 := Aside0.mk (below_step HB1.out hB2)
    clear hB2 HB1
    rcases hT2 : allT (bs T) with ⟨n2, er2⟩ | l2
    · rw [hT2] at hp
      replace hp : e = .returned (.tuple #[.slice none 0 0, .int .i64 n2, .int .i64 er2]) := hp
      subst hp
      clear hT2
      have e1 : (bs S).size = S.length := bs_size S
      have e2 : (bs T).size = T.length := bs_size T
      have e3 : (⟨#[10]⟩ : ByteArray).size = 1 := rfl
      go_wp2_with (fail)
      refine (All_calls _ _).mono ?_
      rintro e w3 ⟨hB3, hp⟩
      rw [show bs S ++ ⟨#[10]⟩ ++ bs T = bs (S ++ 10 :: T) by rw [show (⟨#[10]⟩ : ByteArray) = bs [10] from rfl, bs_append, bs_append, List.append_assoc]; rfl, H3.out] at hp
      replace hp : e = .returned (.tuple #[.slice none 0 0, .int .i64 m, .int .i64 3]) := hp
      subst hp
      have HB3 := Aside0.mk (below_step HB2.out hB3)
      clear hB3 HB2
      go_wp2_with (fail)
      go_loopw [14, 15] (fun u v w' => ∃ i : Nat, u = .int .i64 (1 + nls (S.take i)) ∧ v = .int .i64 i ∧ i ≤ S.length ∧ w' = w3) (fun _ v _ => S.length - (intOf v).toNat)
      case atStart => exact ⟨0, rfl, rfl, by omega, rfl⟩
      case round =>
        obtain ⟨i, rfl, rfl, hi, rfl⟩ := hrel
        have hn := nls_bound (S.take i)
        rw [List.length_take, Nat.min_eq_left hi] at hn
        obtain ⟨k, hk⟩ : ∃ k, nls (S.take i) = k := ⟨_, rfl⟩
        rw [hk] at hn
        by_cases hlt : i < S.length
        · have hbt : (bs S)[i]'(show i < (bs S).size by rw [bs_size]; exact hlt) = S[i]'hlt := rfl
          have hstep := nls_snoc (S.take i) (S[i]'hlt)
          rw [List.take_append_getElem hlt, hk] at hstep
          by_cases h10 : (S[i]'hlt).toNat = 10
          · have t10 : ((((bs S)[i]'(show i < (bs S).size by rw [bs_size]; exact hlt)).toNat : Int) == 10) = true := beq_iff_eq.mpr (by rw [hbt]; omega)
            rw [if_pos h10] at hstep
            clear hbt h10
            rw [hk]
            go_wp2
            exact ⟨⟨i + 1, by rw [hstep]; go_num, by go_num, by omega, trivial⟩, by simp only [intOf]; omega⟩
          · have t10 : ((((bs S)[i]'(show i < (bs S).size by rw [bs_size]; exact hlt)).toNat : Int) == 10) = false := beq_eq_false_iff_ne.mpr (by rw [hbt]; omega)
            rw [if_neg h10] at hstep
            clear hbt h10
            rw [hk]
            go_wp2
            exact ⟨⟨i + 1, by rw [hstep]; go_num, by go_num, by omega, trivial⟩, by simp only [intOf]; omega⟩
        · obtain rfl : i = S.length := by omega
          rw [hk]
          rw [List.take_length] at hk
          have F4 := Aside0.mk hn
          clear hn e2 e3 t1 t2 hi hk H1 H3
          go_wp2_with (fail)
          refine (awake_calls _).mono ?_
          rintro e wz ⟨rfl, hBz⟩
          have HBz := Aside0.mk (below_step HB3.out hBz)
          clear hBz
          go_wp2
          go_ret
          exact ⟨rfl, HBz.out⟩
    · rw [hT2] at hp
      obtain ⟨vb, rfl, hRb, hlb⟩ := hp
      obtain ⟨Ab, cb, rfl⟩ := Kd.R_slice hRb
      clear hRb hlb hT2
      have e1 : (bs S).size = S.length := bs_size S
      have e2 : (bs T).size = T.length := bs_size T
      have e3 : (⟨#[10]⟩ : ByteArray).size = 1 := rfl
      go_wp2_with (fail)
      refine (All_calls _ _).mono ?_
      rintro e w3 ⟨hB3, hp⟩
      rw [show bs S ++ ⟨#[10]⟩ ++ bs T = bs (S ++ 10 :: T) by rw [show (⟨#[10]⟩ : ByteArray) = bs [10] from rfl, bs_append, bs_append, List.append_assoc]; rfl, H3.out] at hp
      replace hp : e = .returned (.tuple #[.slice none 0 0, .int .i64 m, .int .i64 3]) := hp
      subst hp
      have HB3 := Aside0.mk (below_step HB2.out hB3)
      clear hB3 HB2
      go_wp2_with (fail)
      go_loopw [14, 15] (fun u v w' => ∃ i : Nat, u = .int .i64 (1 + nls (S.take i)) ∧ v = .int .i64 i ∧ i ≤ S.length ∧ w' = w3) (fun _ v _ => S.length - (intOf v).toNat)
      case atStart => exact ⟨0, rfl, rfl, by omega, rfl⟩
      case round =>
        obtain ⟨i, rfl, rfl, hi, rfl⟩ := hrel
        have hn := nls_bound (S.take i)
        rw [List.length_take, Nat.min_eq_left hi] at hn
        obtain ⟨k, hk⟩ : ∃ k, nls (S.take i) = k := ⟨_, rfl⟩
        rw [hk] at hn
        by_cases hlt : i < S.length
        · have hbt : (bs S)[i]'(show i < (bs S).size by rw [bs_size]; exact hlt) = S[i]'hlt := rfl
          have hstep := nls_snoc (S.take i) (S[i]'hlt)
          rw [List.take_append_getElem hlt, hk] at hstep
          by_cases h10 : (S[i]'hlt).toNat = 10
          · have t10 : ((((bs S)[i]'(show i < (bs S).size by rw [bs_size]; exact hlt)).toNat : Int) == 10) = true := beq_iff_eq.mpr (by rw [hbt]; omega)
            rw [if_pos h10] at hstep
            clear hbt h10
            rw [hk]
            go_wp2
            exact ⟨⟨i + 1, by rw [hstep]; go_num, by go_num, by omega, trivial⟩, by simp only [intOf]; omega⟩
          · have t10 : ((((bs S)[i]'(show i < (bs S).size by rw [bs_size]; exact hlt)).toNat : Int) == 10) = false := beq_eq_false_iff_ne.mpr (by rw [hbt]; omega)
            rw [if_neg h10] at hstep
            clear hbt h10
            rw [hk]
            go_wp2
            exact ⟨⟨i + 1, by rw [hstep]; go_num, by go_num, by omega, trivial⟩, by simp only [intOf]; omega⟩
        · obtain rfl : i = S.length := by omega
          rw [hk]
          rw [List.take_length] at hk
          have F4 := Aside0.mk hn
          clear hn e2 e3 t1 t2 hi hk H1 H3
          go_wp2_with (fail)
          refine (awake_calls _).mono ?_
          rintro e wz ⟨rfl, hBz⟩
          have HBz := Aside0.mk (below_step HB3.out hBz)
          clear hBz
          go_wp2
          go_ret
          exact ⟨rfl, HBz.out⟩
  · have H1 := Aside0.mk h1
    have H2 := Aside0.mk h2
    have H3 := Aside0.mk h3
    clear h1 h2 h3
    go_enter Try.func8, Try.ntmps8
    go_wp2_with (fail)
    refine (All_calls _ _).mono ?_
    rintro e w1 ⟨hB1, hp⟩
    rw [H1.out] at hp
    obtain ⟨va, rfl, hRa, hla⟩ := hp
    obtain ⟨Aa, ca, rfl⟩ := Kd.R_slice hRa
    have HB1 := Aside0.mk hB1
    clear hB1 hRa hla
    go_wp2_with (fail)
    refine (All_calls _ _).mono ?_
    rintro e w2 ⟨hB2, hp⟩
    rw [H2.out] at hp
    replace hp : e = .returned (.tuple #[.slice none 0 0, .int .i64 n, .int .i64 3]) := hp
    subst hp
    have HB2 := Aside0.mk (below_step HB1.out hB2)
    clear hB2 HB1
    have e1 : (bs S).size = S.length := bs_size S
    have e2 : (bs T).size = T.length := bs_size T
    have e3 : (⟨#[10]⟩ : ByteArray).size = 1 := rfl
    go_wp2_with (fail)
    refine (All_calls _ _).mono ?_
    rintro e w3 ⟨hB3, hp⟩
    rw [show bs S ++ ⟨#[10]⟩ ++ bs T = bs (S ++ 10 :: T) by rw [show (⟨#[10]⟩ : ByteArray) = bs [10] from rfl, bs_append, bs_append, List.append_assoc]; rfl, H3.out] at hp
    replace hp : e = .returned (.tuple #[.slice none 0 0, .int .i64 (n + (1 + nls S)), .int .i64 3]) := hp
    subst hp
    have HB3 := Aside0.mk (below_step HB2.out hB3)
    clear hB3 HB2
    go_wp2_with (fail)
    go_loopw [14, 15] (fun u v w' => ∃ i : Nat, u = .int .i64 (1 + nls (S.take i)) ∧ v = .int .i64 i ∧ i ≤ S.length ∧ w' = w3) (fun _ v _ => S.length - (intOf v).toNat)
    case atStart => exact ⟨0, rfl, rfl, by omega, rfl⟩
    case round =>
      obtain ⟨i, rfl, rfl, hi, rfl⟩ := hrel
      have hn := nls_bound (S.take i)
      rw [List.length_take, Nat.min_eq_left hi] at hn
      obtain ⟨k, hk⟩ : ∃ k, nls (S.take i) = k := ⟨_, rfl⟩
      rw [hk] at hn
      by_cases hlt : i < S.length
      · have hbt : (bs S)[i]'(show i < (bs S).size by rw [bs_size]; exact hlt) = S[i]'hlt := rfl
        have hstep := nls_snoc (S.take i) (S[i]'hlt)
        rw [List.take_append_getElem hlt, hk] at hstep
        by_cases h10 : (S[i]'hlt).toNat = 10
        · have t10 : ((((bs S)[i]'(show i < (bs S).size by rw [bs_size]; exact hlt)).toNat : Int) == 10) = true := beq_iff_eq.mpr (by rw [hbt]; omega)
          rw [if_pos h10] at hstep
          clear hbt h10
          rw [hk]
          go_wp2
          exact ⟨⟨i + 1, by rw [hstep]; go_num, by go_num, by omega, trivial⟩, by simp only [intOf]; omega⟩
        · have t10 : ((((bs S)[i]'(show i < (bs S).size by rw [bs_size]; exact hlt)).toNat : Int) == 10) = false := beq_eq_false_iff_ne.mpr (by rw [hbt]; omega)
          rw [if_neg h10] at hstep
          clear hbt h10
          rw [hk]
          go_wp2
          exact ⟨⟨i + 1, by rw [hstep]; go_num, by go_num, by omega, trivial⟩, by simp only [intOf]; omega⟩
      · obtain rfl : i = S.length := by omega
        rw [hk]
        rw [List.take_length] at hk
        have hw1 : wrap64 (n + (1 + k)) = n + (1 + k) := wrap64_id _ (by omega)
        clear hn e2 e3 t1 t2 hi H1 H2 H3 hn1 hn2
        go_wp2_with (fail)
        refine (awake_calls _).mono ?_
        rintro e wz ⟨rfl, hBz⟩
        have HBz := Aside0.mk (below_step HB3.out hBz)
        clear hBz
        go_wp2
        go_ret
        exact ⟨rfl, HBz.out⟩
  · have H1 := Aside0.mk h1
    have H2 := Aside0.mk h2
    have H3 := Aside0.mk h3
    have HOA := Aside0.mk ha
    have HOK := Aside0.mk hb
    clear h1 h2 h3 ha hb
    go_enter Try.func8, Try.ntmps8
    go_wp2_with (fail)
    refine (All_calls _ _).mono ?_
    rintro e w1 ⟨hB1, hp⟩
    rw [H1.out] at hp
    obtain ⟨va, rfl, hRa, hla⟩ := hp
    obtain ⟨Aa, ca, rfl⟩ := Kd.R_slice hRa
    have RA := Aside0.mk hRa
    have HB1 := Aside0.mk hB1
    clear hB1 hRa
    go_wp2_with (fail)
    refine (All_calls _ _).mono ?_
    rintro e w2 ⟨hB2, hp⟩
    rw [H2.out] at hp
    obtain ⟨vb, rfl, hRb, hlb⟩ := hp
    obtain ⟨Ab, cb, rfl⟩ := Kd.R_slice hRb
    have RB := Aside0.mk hRb
    have RA2 := Aside0.mk (Kd.R_below RA.out hB2)
    have HB2 := Aside0.mk (below_step HB1.out hB2)
    clear hB2 hRb RA HB1
    have e1 : (bs S).size = S.length := bs_size S
    have e2 : (bs T).size = T.length := bs_size T
    have e3 : (⟨#[10]⟩ : ByteArray).size = 1 := rfl
    go_wp2_with (fail)
    refine (All_calls _ _).mono ?_
    rintro e w3 ⟨hB3, hp⟩
    rw [show bs S ++ ⟨#[10]⟩ ++ bs T = bs (S ++ 10 :: T) by rw [show (⟨#[10]⟩ : ByteArray) = bs [10] from rfl, bs_append, bs_append, List.append_assoc]; rfl, H3.out] at hp
    obtain ⟨vc, rfl, hRc, hlc⟩ := hp
    obtain ⟨Ac, cc, rfl⟩ := Kd.R_slice hRc
    have RC := Aside0.mk hRc
    have RB2 := Aside0.mk (Kd.R_below RB.out hB3)
    have RA3 := Aside0.mk (Kd.R_below RA2.out hB3)
    have HB3 := Aside0.mk (below_step HB2.out hB3)
    clear hB3 hRc RB RA2 HB2
    go_wp2_with (fail)
    go_loopw [14, 15] (fun u v w' => ∃ i : Nat, u = .int .i64 (1 + nls (S.take i)) ∧ v = .int .i64 i ∧ i ≤ S.length ∧ w' = w3) (fun _ v _ => S.length - (intOf v).toNat)
    case atStart => exact ⟨0, rfl, rfl, by omega, rfl⟩
    case round =>
      obtain ⟨i, rfl, rfl, hi, rfl⟩ := hrel
      have hn := nls_bound (S.take i)
      rw [List.length_take, Nat.min_eq_left hi] at hn
      obtain ⟨k, hk⟩ : ∃ k, nls (S.take i) = k := ⟨_, rfl⟩
      rw [hk] at hn
      by_cases hlt : i < S.length
      · have hbt : (bs S)[i]'(show i < (bs S).size by rw [bs_size]; exact hlt) = S[i]'hlt := rfl
        have hstep := nls_snoc (S.take i) (S[i]'hlt)
        rw [List.take_append_getElem hlt, hk] at hstep
        by_cases h10 : (S[i]'hlt).toNat = 10
        · have t10 : ((((bs S)[i]'(show i < (bs S).size by rw [bs_size]; exact hlt)).toNat : Int) == 10) = true := beq_iff_eq.mpr (by rw [hbt]; omega)
          rw [if_pos h10] at hstep
          clear hbt h10
          rw [hk]
          go_wp2
          exact ⟨⟨i + 1, by rw [hstep]; go_num, by go_num, by omega, trivial⟩, by simp only [intOf]; omega⟩
        · have t10 : ((((bs S)[i]'(show i < (bs S).size by rw [bs_size]; exact hlt)).toNat : Int) == 10) = false := beq_eq_false_iff_ne.mpr (by rw [hbt]; omega)
          rw [if_neg h10] at hstep
          clear hbt h10
          rw [hk]
          go_wp2
          exact ⟨⟨i + 1, by rw [hstep]; go_num, by go_num, by omega, trivial⟩, by simp only [intOf]; omega⟩
      · obtain rfl : i = S.length := by omega
        rw [hk]
        rw [List.take_length] at hk
        rw [hk] at RC
        clear H1 H2 H3
        have l3 : (a ++ List.map (mvS (1 + k)) b).length = a.length + b.length := by rw [List.length_append, List.length_map]
        rw [hk, l3] at hlc
        rw [l3] at RC
        rw [bs_size] at hla hlb hlc
        have hw1 : wrap64 ((a.length : Int) + (b.length : Int)) = (a.length : Int) + (b.length : Int) := wrap64_id _ (by omega)
        have F1 := Aside0.mk hla
        have F2 := Aside0.mk hlb
        have F3 := Aside0.mk hlc
        have F4 := Aside0.mk hn
        clear hla hlb hlc hn l3 e2 e3 t1 t2 hi hk
        go_wp2_with (fail)
        clear e1 hw1
        obtain ⟨wq, rfl⟩ : ∃ wq, wq = wr := ⟨_, rfl⟩
        go_loopw [16] (fun u w' => ∃ j : Nat, u = .int .i64 j ∧ j ≤ a.length + b.length ∧ Aside0 (Below wq.heap.size wq w')) (fun u _ => a.length + b.length - (intOf u).toNat)
        case atStart => exact ⟨0, rfl, by omega, ⟨Below.refl _ _⟩⟩
        case round =>
          obtain ⟨j, rfl, hj, HJ⟩ := hrel
          by_cases hlt : j < a.length + b.length
          · have HN := Aside0.mk (heap_alloc_new wr (.cells #[.int .i64 0, .string ⟨#[]⟩, .int .i64 0, .int .i64 0] 30))
            have HW := Aside0.mk (below_alloc HJ.out (.cells #[.int .i64 0, .string ⟨#[]⟩, .int .i64 0, .int .i64 0] 30))
            have hsz : wq.heap.size ≤ wr.heap.size := HJ.out.size
            by_cases hja : j < a.length
            · have hq := HOA.out _ (rd_mem a j (by omega) (by omega))
              go_wp2_with (fail)
              clear HJ
              revert HN HW
              generalize wr.alloc (.cells #[.int .i64 0, .string ⟨#[]⟩, .int .i64 0, .int .i64 0] 30) = w5
              intro HN HW
              obtain ⟨hx1, hx2, hCa⟩ := Kd.R_reads' (Kd.R_below RA3.out HW.out)
              obtain ⟨ad, rfl, a0, a1, a2, a3⟩ := at_T31 hCa j (by omega) (by omega)
              obtain ⟨n, hn⟩ : ∃ n : Nat, (j : Int).toNat * 4 = n := ⟨_, rfl⟩
              rw [hn] at a0 a1 a2 a3
              have hia := fun (l' c' : Nat) (hl : (j : Int) < l') (W : World) => ix31 ad l' c' (j : Int) n W (by omega) hl hn
              replace hia := hia a.length ca (by omega)
              clear hn
              clear hCa hx1
              rw [hia]
              obtain ⟨⟨p0, p1, p2, p3⟩, ⟨q0, q1, q2, q3⟩⟩ := row4 HN.out
              obtain ⟨y, hy⟩ : ∃ y, rd_T31 a j = y := ⟨_, rfl⟩
              rw [hy] at a0 a1 a2 a3 hq
              have HQ := Aside0.mk hq
              clear hq
              go_wp2_with (fail)
              have HN2 := Aside0.mk (row4 (blk_put (blk_put (blk_put (blk_put HN.out 0 (.int .i64 y.f0) rfl) 1 (.string y.f1) rfl) 2 (.int .i64 y.f2) rfl) 3 (.int .i64 y.f3) (cs' := #[.int .i64 y.f0, .string y.f1, .int .i64 y.f2, .int .i64 y.f3]) rfl)).1
              have HW2 := Aside0.mk ((((HW.out.setCell (p := ⟨wr.heap.size, 0, none⟩) hsz (.int .i64 y.f0)).setCell (p := ⟨wr.heap.size, 1, none⟩) hsz (.string y.f1)).setCell (p := ⟨wr.heap.size, 2, none⟩) hsz (.int .i64 y.f2)).setCell (p := ⟨wr.heap.size, 3, none⟩) hsz (.int .i64 y.f3))
              clear a0 a1 a2 a3 p0 p1 p2 p3 q0 q1 q2 q3 HN HW hia
              revert HN2 HW2
              generalize (((w5.setCell ⟨wr.heap.size, 0, none⟩ (.int .i64 y.f0)).setCell ⟨wr.heap.size, 1, none⟩ (.string y.f1)).setCell ⟨wr.heap.size, 2, none⟩ (.int .i64 y.f2)).setCell ⟨wr.heap.size, 3, none⟩ (.int .i64 y.f3) = w6
              intro HN2 HW2
              obtain ⟨p0, p1, p2, p3⟩ := HN2.out
              obtain ⟨hx1, hx2, hCc⟩ := Kd.R_reads' (Kd.R_below RC.out HW2.out)
              obtain ⟨ac, rfl, c0, c1, c2, c3⟩ := at_T31 hCc ((j : Int)) (by omega) (by omega)
              obtain ⟨n, hn2⟩ : ∃ n : Nat, ((j : Int)).toNat * 4 = n := ⟨_, rfl⟩
              rw [hn2, rd_app_l a _ j (by omega) (by omega), hy] at c0 c1 c2 c3
              replace c0 : w6.cell? (ac.add n) = some (.int .i64 y.f0) := c0
              replace c1 : w6.cell? ⟨(ac.add n).block, (ac.add n).off + 1, none⟩ = some (.string y.f1) := c1
              replace c2 : w6.cell? ⟨(ac.add n).block, (ac.add n).off + 2, none⟩ = some (.int .i64 y.f2) := c2
              replace c3 : w6.cell? ⟨(ac.add n).block, (ac.add n).off + 3, none⟩ = some (.int .i64 y.f3) := c3
              clear hCc hy HN2 hx1 hx2
              have hq := HQ.out
              have F7 := F4.out
              have F8 := F1.out
              have F9 := F2.out
              have hw3 : wrap64 y.f3 = y.f3 := wrap64_id _ (by omega)
              have hw4 : wrap64 (y.f3 + (1 + k)) = y.f3 + (1 + k) := wrap64_id _ (by omega)
              have hw5 : wrap64 ((j : Int) + 1) = (j : Int) + 1 := wrap64_id _ (by omega)
              have HW3 := Aside0.mk hw3
              have HW4 := Aside0.mk hw4
              have HW5 := Aside0.mk hw5
              clear F7 F8 F9 hq hx2 hw3 hw4 hw5
              have hw3 := HW3.out
              have hic := fun (W : World) => ix31 ac (a.length + b.length) cc (j : Int) n W (by omega) (by omega) hn2
              clear hn2
              go_quiet (fail)
              have hw5 := HW5.out
              go_wp2
              go_roundw
              case rel => exact ⟨j + 1, congrArg (Value.int .i64) (HW5.out.trans (Int.natCast_succ j).symm), Nat.succ_le_of_lt hlt, ⟨pw_below_drewN HW2.out _⟩⟩
              case measure => exact meas1 hlt HW5.out
            · obtain ⟨i, rfl⟩ : ∃ i, j = a.length + i := ⟨j - a.length, by omega⟩
              have hw2 : wrap64 ((a.length : Int) + (i : Int) - (a.length : Int)) = i := by rw [show (a.length : Int) + (i : Int) - (a.length : Int) = i by omega]; exact wrap64_id _ (by have := F2.out; omega)
              have hq := HOK.out _ (rd_mem b i (by omega) (by omega))
              go_wp2_with (fail)
              clear HJ
              revert HN HW
              generalize wr.alloc (.cells #[.int .i64 0, .string ⟨#[]⟩, .int .i64 0, .int .i64 0] 30) = w5
              intro HN HW
              obtain ⟨hx1, hx2, hCa⟩ := Kd.R_reads' (Kd.R_below RB2.out HW.out)
              obtain ⟨ad, rfl, a0, a1, a2, a3⟩ := at_T31 hCa i (by omega) (by omega)
              obtain ⟨n, hn⟩ : ∃ n : Nat, (i : Int).toNat * 4 = n := ⟨_, rfl⟩
              rw [hn] at a0 a1 a2 a3
              have hia := fun (l' c' : Nat) (hl : (i : Int) < l') (W : World) => ix31 ad l' c' (i : Int) n W (by omega) hl hn
              replace hia := hia b.length cb (by omega)
              clear hn
              clear hCa hx1
              rw [hia]
              obtain ⟨⟨p0, p1, p2, p3⟩, ⟨q0, q1, q2, q3⟩⟩ := row4 HN.out
              obtain ⟨y, hy⟩ : ∃ y, rd_T31 b i = y := ⟨_, rfl⟩
              rw [hy] at a0 a1 a2 a3 hq
              have HQ := Aside0.mk hq
              clear hq
              go_wp2_with (fail)
              have HN2 := Aside0.mk (row4 (blk_put (blk_put (blk_put (blk_put HN.out 0 (.int .i64 y.f0) rfl) 1 (.string y.f1) rfl) 2 (.int .i64 y.f2) rfl) 3 (.int .i64 y.f3) (cs' := #[.int .i64 y.f0, .string y.f1, .int .i64 y.f2, .int .i64 y.f3]) rfl)).1
              have HW2 := Aside0.mk ((((HW.out.setCell (p := ⟨wr.heap.size, 0, none⟩) hsz (.int .i64 y.f0)).setCell (p := ⟨wr.heap.size, 1, none⟩) hsz (.string y.f1)).setCell (p := ⟨wr.heap.size, 2, none⟩) hsz (.int .i64 y.f2)).setCell (p := ⟨wr.heap.size, 3, none⟩) hsz (.int .i64 y.f3))
              clear a0 a1 a2 a3 p0 p1 p2 p3 q0 q1 q2 q3 HN HW hia
              revert HN2 HW2
              generalize (((w5.setCell ⟨wr.heap.size, 0, none⟩ (.int .i64 y.f0)).setCell ⟨wr.heap.size, 1, none⟩ (.string y.f1)).setCell ⟨wr.heap.size, 2, none⟩ (.int .i64 y.f2)).setCell ⟨wr.heap.size, 3, none⟩ (.int .i64 y.f3) = w6
              intro HN2 HW2
              obtain ⟨p0, p1, p2, p3⟩ := HN2.out
              obtain ⟨hx1, hx2, hCc⟩ := Kd.R_reads' (Kd.R_below RC.out HW2.out)
              obtain ⟨ac, rfl, c0, c1, c2, c3⟩ := at_T31 hCc (((a.length + i : Nat) : Int)) (by omega) (by omega)
              obtain ⟨n, hn2⟩ : ∃ n : Nat, (((a.length + i : Nat) : Int)).toNat * 4 = n := ⟨_, rfl⟩
              rw [hn2, (rd_app_r a b ((a.length + i : Nat) : Int) (1 + k) (by omega) (by omega)).trans (by rw [show (((a.length + i : Nat) : Int) - (a.length : Int)) = i by omega]), hy] at c0 c1 c2 c3
              replace c0 : w6.cell? (ac.add n) = some (.int .i64 y.f0) := c0
              replace c1 : w6.cell? ⟨(ac.add n).block, (ac.add n).off + 1, none⟩ = some (.string y.f1) := c1
              replace c2 : w6.cell? ⟨(ac.add n).block, (ac.add n).off + 2, none⟩ = some (.int .i64 y.f2) := c2
              replace c3 : w6.cell? ⟨(ac.add n).block, (ac.add n).off + 3, none⟩ = some (.int .i64 (y.f3 + (1 + k))) := c3
              clear hCc hy HN2 hx1 hx2
              have hq := HQ.out
              have F7 := F4.out
              have F8 := F1.out
              have F9 := F2.out
              have hw3 : wrap64 y.f3 = y.f3 := wrap64_id _ (by omega)
              have hw4 : wrap64 (y.f3 + (1 + k)) = y.f3 + (1 + k) := wrap64_id _ (by omega)
              have hw5 : wrap64 (((a.length : Int) + (i : Int)) + 1) = ((a.length : Int) + (i : Int)) + 1 := wrap64_id _ (by omega)
              have HW3 := Aside0.mk hw3
              have HW4 := Aside0.mk hw4
              have HW5 := Aside0.mk hw5
              clear F7 F8 F9 hq hx2 hw3 hw4 hw5
              have hw4 := HW4.out
              have hic := fun (W : World) => ix31 ac (a.length + b.length) cc ((a.length : Int) + (i : Int)) n W (by omega) (by omega) hn2
              clear hn2
              go_quiet (fail)
              have hw5 := HW5.out
              go_wp2
              go_roundw
              case rel => exact ⟨a.length + i + 1, congrArg (Value.int .i64) (rel2 HW5.out), Nat.succ_le_of_lt hlt, ⟨pw_below_drewN HW2.out _⟩⟩
              case measure => exact meas2 hlt HW5.out
          · go_wp2_with (fail)
            refine (awake_calls _).mono ?_
            rintro e wz ⟨rfl, hBz⟩
            have HBz := Aside0.mk (below_step (below_step HB3.out HJ.out) hBz)
            clear hBz
            go_wp2
            go_ret
            exact ⟨rfl, HBz.out⟩
theorem LexParts_row (s t : ByteArray) (w : World) :
    Calls Try.prog 8 #[.string s, .string t] w fun e w' => e = .returned (.bool true) ∧ Below w.heap.size w w' := by
  have h := LexParts_calls (bl s) (bl t) w
  rw [bs_bl, bs_bl] at h
  exact h
end Go.Proofs.Ythnmaaoafogbiaa.LexParts
