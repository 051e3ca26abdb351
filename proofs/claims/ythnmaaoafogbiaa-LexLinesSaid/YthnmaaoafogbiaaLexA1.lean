/- Contracts of the reference: letter, digit, number. -/
import Derived.Test.YthnmaaoafogbiaaLex11
import Derived.Test.YthnmaaoafogbiaaLex8
namespace Go.Proofs.Ythnmaaoafogbiaa.Lex
set_option linter.unusedSimpArgs false
set_option linter.unusedVariables false
open Go.RowKit Go.Proofs.YthnmaaoafogbiaaW.PrintWords Go.Proofs.YthnmaaoafogbiaaW.PrintLast Go.Proofs.YthnmaaoafogbiaaW.PrintMore PLexAll Go.Proofs.YthnmaaoafogbiaaW.Canon
attribute [local go_sem] max2_mx min2_mn max_two min_two max_three min_three max_four min_four

def isLB (c : UInt8) : Bool := decide (97 ≤ c.toNat) && decide (c.toNat ≤ 122)
def isDB (c : UInt8) : Bool := decide (48 ≤ c.toNat) && decide (c.toNat ≤ 57)
def headIs (p : UInt8 → Bool) : List UInt8 → Bool
  | [] => false
  | c :: _ => p c
theorem headIs_drop (p : UInt8 → Bool) (S : List UInt8) (i : Nat) (h : i < S.length) : headIs p (S.drop i) = p (S[i]'h) := by
  rw [List.drop_eq_getElem_cons h]; rfl
theorem headIs_end (p : UInt8 → Bool) (S : List UInt8) (i : Nat) (h : ¬ i < S.length) : headIs p (S.drop i) = false := by
  rw [List.drop_eq_nil_of_le (by omega)]; rfl
theorem bs_get (S : List UInt8) (i : Nat) (h : i < S.length) : (bs S)[i]'(show i < (bs S).size by rw [bs_size]; exact h) = S[i]'h := rfl

theorem ret_eq {v v' : Value} {w w0 : World} (h : v = v') (hb : Below w.heap.size w w0) : (Ending.returned v = Ending.returned v') ∧ Below w.heap.size w w0 := ⟨by rw [h], hb⟩
theorem letter_calls (S : List UInt8) (i : Nat) (w : World) : Calls Try.prog 15 #[.string (bs S), .int .i64 i] w fun e w' => e = .returned (.bool (headIs isLB (S.drop i))) ∧ w = w' := by
  have e1 : (bs S).size = S.length := bs_size S
  by_cases hi : i < S.length
  · rw [headIs_drop _ S i hi]
    have hbt := bs_get S i hi
    obtain ⟨c, hc⟩ : ∃ c, S[i]'hi = c := ⟨_, rfl⟩
    rw [hc] at hbt ⊢
    by_cases h1 : 97 ≤ c.toNat
    · have d1 : decide ((97 : Int) ≤ (((bs S)[i]'(show i < (bs S).size by rw [bs_size]; exact hi)).toNat : Int)) = true := decide_eq_true (by rw [hbt]; omega)
      by_cases h2 : c.toNat ≤ 122
      · have d2 : decide ((((bs S)[i]'(show i < (bs S).size by rw [bs_size]; exact hi)).toNat : Int) ≤ 122) = true := decide_eq_true (by rw [hbt]; omega)
        have E := Aside0.mk (show isLB c = true by simp [isLB, h1, h2])
        clear hbt h1 h2 hc
        go_enter Try.func15, Try.ntmps15
        go_wp2
        go_ret
        exact ⟨by rw [E.out]; rfl, rfl⟩
      · have d2 : decide ((((bs S)[i]'(show i < (bs S).size by rw [bs_size]; exact hi)).toNat : Int) ≤ 122) = false := decide_eq_false (by rw [hbt]; omega)
        have E := Aside0.mk (show isLB c = false by simp [isLB, h2])
        clear hbt h1 h2 hc
        go_enter Try.func15, Try.ntmps15
        go_wp2
        go_ret
        exact ⟨by rw [E.out]; rfl, rfl⟩
    · have d1 : decide ((97 : Int) ≤ (((bs S)[i]'(show i < (bs S).size by rw [bs_size]; exact hi)).toNat : Int)) = false := decide_eq_false (by rw [hbt]; omega)
      have E := Aside0.mk (show isLB c = false by simp [isLB, h1])
      clear hbt h1 hc
      go_enter Try.func15, Try.ntmps15
      go_wp2
      go_ret
      exact ⟨by rw [E.out]; rfl, rfl⟩
  · rw [headIs_end _ S i hi]
    go_enter Try.func15, Try.ntmps15
    go_wp2
    go_ret
    exact ⟨rfl, rfl⟩
theorem letter_calls' (S : List UInt8) (i : Nat) (x : Int) (hx : x = i) (w : World) : Calls Try.prog 15 #[.string (bs S), .int .i64 x] w fun e w' => e = .returned (.bool (headIs isLB (S.drop i))) ∧ w = w' := by
  subst hx
  exact letter_calls S i w
theorem digit_calls (S : List UInt8) (i : Nat) (w : World) : Calls Try.prog 16 #[.string (bs S), .int .i64 i] w fun e w' => e = .returned (.bool (headIs isDB (S.drop i))) ∧ w = w' := by
  have e1 : (bs S).size = S.length := bs_size S
  by_cases hi : i < S.length
  · rw [headIs_drop _ S i hi]
    have hbt := bs_get S i hi
    obtain ⟨c, hc⟩ : ∃ c, S[i]'hi = c := ⟨_, rfl⟩
    rw [hc] at hbt ⊢
    by_cases h1 : 48 ≤ c.toNat
    · have d1 : decide ((48 : Int) ≤ (((bs S)[i]'(show i < (bs S).size by rw [bs_size]; exact hi)).toNat : Int)) = true := decide_eq_true (by rw [hbt]; omega)
      by_cases h2 : c.toNat ≤ 57
      · have d2 : decide ((((bs S)[i]'(show i < (bs S).size by rw [bs_size]; exact hi)).toNat : Int) ≤ 57) = true := decide_eq_true (by rw [hbt]; omega)
        have E := Aside0.mk (show isDB c = true by simp [isDB, h1, h2])
        clear hbt h1 h2 hc
        go_enter Try.func16, Try.ntmps16
        go_wp2
        go_ret
        exact ⟨by rw [E.out]; rfl, rfl⟩
      · have d2 : decide ((((bs S)[i]'(show i < (bs S).size by rw [bs_size]; exact hi)).toNat : Int) ≤ 57) = false := decide_eq_false (by rw [hbt]; omega)
        have E := Aside0.mk (show isDB c = false by simp [isDB, h2])
        clear hbt h1 h2 hc
        go_enter Try.func16, Try.ntmps16
        go_wp2
        go_ret
        exact ⟨by rw [E.out]; rfl, rfl⟩
    · have d1 : decide ((48 : Int) ≤ (((bs S)[i]'(show i < (bs S).size by rw [bs_size]; exact hi)).toNat : Int)) = false := decide_eq_false (by rw [hbt]; omega)
      have E := Aside0.mk (show isDB c = false by simp [isDB, h1])
      clear hbt h1 hc
      go_enter Try.func16, Try.ntmps16
      go_wp2
      go_ret
      exact ⟨by rw [E.out]; rfl, rfl⟩
  · rw [headIs_end _ S i hi]
    go_enter Try.func16, Try.ntmps16
    go_wp2
    go_ret
    exact ⟨rfl, rfl⟩

def capT (l : List UInt8) : Int := l.foldl (fun n c => mn (10 * n + ((c.toNat : Int) - 48)) 1099511627776) 0
theorem capT_snoc (l : List UInt8) (c : UInt8) : capT (l ++ [c]) = mn (10 * capT l + ((c.toNat : Int) - 48)) 1099511627776 := by
  rw [capT, List.foldl_append]; rfl
theorem capT_nil : capT [] = 0 := rfl
theorem isDB_iff (c : UInt8) : isDB c = true ↔ isDg c := by
  simp [isDB, isDg]
theorem capT_worth (l : List UInt8) (h : ∀ c ∈ l, isDg c) : capT l = mn (worth l) 1099511627776 := by
  suffices hh : ∀ n m : Int, 0 ≤ n → m = mn n 1099511627776 → l.foldl (fun n c => mn (10 * n + ((c.toNat : Int) - 48)) 1099511627776) m = mn (l.foldl (fun n c => n * 10 + ((c.toNat : Int) - 48)) n) 1099511627776 from hh 0 0 (by decide) (by decide)
  induction l with
  | nil => intro n m _ hm; exact hm
  | cons c l ih =>
    intro n m hn hm
    obtain ⟨c0, c1⟩ := h c List.mem_cons_self
    refine ih (fun c hc => h c (List.mem_cons_of_mem _ hc)) _ _ (show 0 ≤ n * 10 + ((c.toNat : Int) - 48) by omega) ?_
    show mn (10 * m + ((c.toNat : Int) - 48)) 1099511627776 = mn (n * 10 + ((c.toNat : Int) - 48)) 1099511627776
    rw [hm]
    simp only [mn]
    split <;> split <;> (try split) <;> omega
theorem capT_bound (l : List UInt8) (h : ∀ c ∈ l, isDg c) : 0 ≤ capT l ∧ capT l ≤ 1099511627776 := by
  have h1 := worth_nonneg l h
  rw [capT_worth l h]
  simp only [mn]
  split <;> omega
theorem head_take (p : UInt8 → Bool) (X : List UInt8) : headIs p (X.drop (X.takeWhile p).length) = false := by
  induction X with
  | nil => rfl
  | cons c X ih =>
    by_cases h : p c = true
    · rw [List.takeWhile_cons_of_pos h, List.length_cons, List.drop_succ_cons]; exact ih
    · rw [List.takeWhile_cons_of_neg h]
      simp only [List.length_nil, List.drop_zero, headIs]
      exact Bool.eq_false_iff.mpr h
theorem get_take (p : UInt8 → Bool) (X : List UInt8) (m : Nat) (h : m < (X.takeWhile p).length) : ∃ h2 : m < X.length, X[m]'h2 = (X.takeWhile p)[m]'h ∧ p ((X.takeWhile p)[m]'h) = true := by
  have hp := List.takeWhile_prefix (l := X) p
  have h2 : m < X.length := by have := hp.length_le; omega
  refine ⟨h2, (hp.getElem h).symm, ?_⟩
  exact List.all_eq_true.mp List.all_takeWhile _ (List.getElem_mem h)
/-- What runs on from place j. -/
theorem tw_in (p : UInt8 → Bool) (S : List UInt8) (j m : Nat) (h : m < ((S.drop j).takeWhile p).length) :
    ∃ h2 : j + m < S.length, S[j + m]'h2 = ((S.drop j).takeWhile p)[m]'h ∧ p (S[j + m]'h2) = true ∧ headIs p (S.drop (j + m)) = true := by
  obtain ⟨h2, h3, h4⟩ := get_take p (S.drop j) m h
  have h5 : j + m < S.length := by rw [List.length_drop] at h2; omega
  have h6 : S[j + m]'h5 = ((S.drop j).takeWhile p)[m]'h := by rw [← h3, List.getElem_drop]
  refine ⟨h5, h6, by rw [h6]; exact h4, by rw [headIs_drop p S (j + m) h5, h6]; exact h4⟩
theorem tw_out (p : UInt8 → Bool) (S : List UInt8) (j : Nat) : headIs p (S.drop (j + ((S.drop j).takeWhile p).length)) = false := by
  rw [← List.drop_drop]
  exact head_take p (S.drop j)
theorem tw_len (p : UInt8 → Bool) (S : List UInt8) (j : Nat) (h : j ≤ S.length) : j + ((S.drop j).takeWhile p).length ≤ S.length := by
  have := (List.takeWhile_prefix (l := S.drop j) p).length_le
  rw [List.length_drop] at this
  omega
theorem tw_head (p : UInt8 → Bool) (S : List UInt8) (j : Nat) : headIs p (S.drop j) = !((S.drop j).takeWhile p).isEmpty := by
  cases h : S.drop j with
  | nil => rfl
  | cons c X =>
    by_cases hp : p c = true
    · rw [List.takeWhile_cons_of_pos hp]; simp [headIs, hp]
    · rw [List.takeWhile_cons_of_neg hp]; simp [headIs, Bool.eq_false_iff.mpr hp]
def numV (neg : Bool) (ds : List UInt8) : Int := if neg = true then -capT ds else capT ds
def numOk (neg : Bool) (ds q : List UInt8) : Bool := headIs isDB ds && (decide (-2147483648 ≤ numV neg ds) && (decide (numV neg ds < 2147483648) && !headIs isLB q))
theorem tw_h2 (X : List UInt8) : headIs isDB X = headIs isDB (X.takeWhile isDB) := by
  cases X with
  | nil => rfl
  | cons c X =>
    by_cases hp : isDB c = true
    · rw [List.takeWhile_cons_of_pos hp]; rfl
    · rw [List.takeWhile_cons_of_neg hp]; exact Bool.eq_false_iff.mpr hp
theorem tw_dg (X : List UInt8) : ∀ c ∈ X.takeWhile isDB, isDg c := fun c hc => (isDB_iff c).mp (List.all_eq_true.mp List.all_takeWhile _ hc)



set_option maxHeartbeats 1000000 in
theorem number_calls (S : List UInt8) (i : Nat) (hi : i < S.length) (hl : S.length ≤ 8192) (neg : Bool) (hneg : (S[i]'hi == 45) = neg) (j : Nat) (hj : j = if neg = true then i + 1 else i) (w : World) :
    Calls Try.prog 17 #[.string (bs S), .int .i64 i] w fun e w' =>
      e = .returned (.tuple #[.int .i64 (numV neg ((S.drop j).takeWhile isDB)), .int .i64 ((j + ((S.drop j).takeWhile isDB).length : Nat) : Int), .bool (numOk neg ((S.drop j).takeWhile isDB) (S.drop (j + ((S.drop j).takeWhile isDB).length)))]) ∧ Below w.heap.size w w' := by
  obtain ⟨RES, hRES⟩ : ∃ RES, Value.tuple #[.int .i64 (numV neg ((S.drop j).takeWhile isDB)), .int .i64 ((j + ((S.drop j).takeWhile isDB).length : Nat) : Int), .bool (numOk neg ((S.drop j).takeWhile isDB) (S.drop (j + ((S.drop j).takeWhile isDB).length)))] = RES := ⟨_, rfl⟩
  rw [hRES]
  have e1 : (bs S).size = S.length := bs_size S
  have hbt := bs_get S i hi
  cases neg with
  | true =>
    have hc : S[i]'hi = 45 := beq_iff_eq.mp hneg
    have t1 : ((((bs S)[i]'(show i < (bs S).size by rw [bs_size]; exact hi)).toNat : Int) == 45) = true := beq_iff_eq.mpr (by rw [hbt, hc]; rfl)
    obtain rfl : j = i + 1 := hj
    clear hneg hc hbt
    go_enter Try.func17, Try.ntmps17
    obtain ⟨ds, hds⟩ : ∃ ds, (S.drop (i + 1)).takeWhile isDB = ds := ⟨_, rfl⟩
    have hdg : ∀ c ∈ ds, isDg c := by rw [← hds]; exact tw_dg _
    have hlen := tw_len isDB S (i + 1) (by omega)
    rw [hds] at hlen
    have hcb := capT_bound ds hdg
    obtain ⟨b9, hb9⟩ : ∃ b9, headIs isDB (S.drop (i + 1)) = b9 := ⟨_, rfl⟩
    go_wp2_with (fail)
    refine (digit_calls S (i + 1) _).mono ?_
    rintro e w' ⟨rfl, rfl⟩
    rw [hb9]
    go_wp2_with (fail)
    go_loopw [1, 8] (fun u v w' => ∃ m : Nat, u = .int .i64 (((i + 1) + m : Nat) : Int) ∧ v = .int .i64 (capT (ds.take m)) ∧ m ≤ ds.length ∧ w' = w) (fun u _ _ => S.length - (intOf u).toNat)
    case atStart => exact ⟨0, by simp, rfl, by omega, rfl⟩
    case round =>
      obtain ⟨m, rfl, rfl, hm, rfl⟩ := hrel
      go_wp2_with (fail)
      refine (digit_calls S ((i + 1) + m) _).mono ?_
      rintro e w' ⟨rfl, rfl⟩
      by_cases hlt : m < ds.length
      · have ht := tw_in isDB S (i + 1) m (by rw [hds]; exact hlt)
        obtain ⟨h2, h3, h4, h5⟩ := ht
        have hcm := capT_bound (ds.take m) (fun c hc => hdg c (List.mem_of_mem_take hc))
        have hst := capT_snoc (ds.take m) (ds[m]'hlt)
        rw [List.take_append_getElem hlt] at hst
        have h6 : S[(i + 1) + m]'h2 = ds[m]'hlt := by rw [h3]; simp only [hds]
        have hbt := bs_get S ((i + 1) + m) h2
        rw [h6] at hbt
        have hg := hdg (ds[m]'hlt) (List.getElem_mem hlt)
        obtain ⟨c, hc⟩ : ∃ c, ds[m]'hlt = c := ⟨_, rfl⟩
        rw [hc] at hbt hst hg
        obtain ⟨r, hr⟩ : ∃ r : Int, (c.toNat : Int) = r := ⟨_, rfl⟩
        obtain ⟨g0, g1⟩ := hg
        have hbt2 : (((bs S)[(i + 1) + m]'(show (i + 1) + m < (bs S).size by rw [bs_size]; exact h2)).toNat : Int) = r := by rw [hbt, hr]
        rw [hr] at hst
        obtain ⟨V, hV⟩ : ∃ V, capT (ds.take m) = V := ⟨_, rfl⟩
        rw [hV] at hst hcm ⊢
        have r0 : 48 ≤ r := by omega
        have r1 : r ≤ 57 := by omega
        rw [h5]
        have HST := Aside0.mk hst
        have HLT := Aside0.mk hlt
        have hu : IntKind.u8.wrap (r - 48) = r - 48 := by rw [u8w]; omega
        have hw1 : wrap64 (10 * V) = 10 * V := wrap64_id _ (by omega)
        have hw2 : wrap64 (10 * V + (r - 48)) = 10 * V + (r - 48) := wrap64_id _ (by omega)
        clear h3 h4 h5 h6 hbt hst hds hdg hc hV hr g0 g1 hcb
        go_wp2_with (fail)
        exact ⟨⟨m + 1, by simp only [Int.natCast_add]; rfl, by rw [HST.out], by omega, trivial⟩, by simp only [intOf]; omega⟩
      · obtain rfl : m = ds.length := by omega
        have ht := tw_out isDB S (i + 1)
        rw [hds] at ht
        rw [ht, List.take_length]
        have hpos : (((i + 1) + ds.length : Nat) : Int) = ((i : Int) + 1 + (ds.length : Int)) := by omega
        obtain ⟨V, hV⟩ : ∃ V, -(capT ds) = V := ⟨_, rfl⟩; have hwn : wrap64 (-(capT ds)) = V := (by rw [hV]; exact wrap64_id _ (by omega)); have hnv : numV true ds = V := hV
        have hok : numOk true ds (S.drop ((i + 1) + ds.length)) = (b9 && (decide (-2147483648 ≤ V) && (decide (V < 2147483648) && !headIs isLB (S.drop ((i + 1) + ds.length))))) := by
          rw [numOk, hnv, ← hds, ← tw_h2, hb9]
        have hR2 : Value.tuple #[.int .i64 V, .int .i64 ((i : Int) + 1 + (ds.length : Int)), .bool (b9 && (decide (-2147483648 ≤ V) && (decide (V < 2147483648) && !headIs isLB (S.drop ((i + 1) + ds.length)))))] = RES := by
          rw [← hok, ← hnv, ← hpos, ← hds, ← hRES]
        clear hok hnv hRES hb9 hV hds hdg hcb ht
        obtain ⟨L, hL⟩ : ∃ L, headIs isLB (S.drop ((i + 1) + ds.length)) = L := ⟨_, rfl⟩
        rw [hL] at hR2
        cases b9 with
        | false =>
          have E := Aside0.mk (show Value.tuple #[.int .i64 V, .int .i64 ((i : Int) + 1 + (ds.length : Int)), .bool false] = RES from hR2)
          clear hR2
          go_wp2_with (fail)
          go_ret3
          exact ⟨by first | (rw [← E.out]; rfl) | (rw [← E.out, ← hwn]; rfl), Below.refl _ _⟩
        | true =>
          by_cases c1 : -2147483648 ≤ V
          · have u1 := decide_eq_true c1
            by_cases c2 : V < 2147483648
            · have u2 := decide_eq_true c2
              rw [u1, u2] at hR2
              have E := Aside0.mk (show Value.tuple #[.int .i64 V, .int .i64 ((i : Int) + 1 + (ds.length : Int)), .bool (!L)] = RES from hR2)
              clear hR2
              go_wp2_with (fail)
              refine (letter_calls' S ((i + 1) + ds.length) _ (by omega) _).mono ?_
              rintro e w' ⟨rfl, rfl⟩
              rw [hL]
              clear hL
              cases L
              · go_wp2
                go_ret3
                exact ⟨by first | (rw [← E.out]; rfl) | (rw [← E.out, ← hwn]; rfl), Below.refl _ _⟩
              · go_wp2
                go_ret3
                exact ⟨by first | (rw [← E.out]; rfl) | (rw [← E.out, ← hwn]; rfl), Below.refl _ _⟩
            · have u2 := decide_eq_false c2
              rw [u1, u2] at hR2
              have E := Aside0.mk (show Value.tuple #[.int .i64 V, .int .i64 ((i : Int) + 1 + (ds.length : Int)), .bool false] = RES from hR2)
              clear hR2
              go_wp2_with (fail)
              go_ret3
              exact ⟨by first | (rw [← E.out]; rfl) | (rw [← E.out, ← hwn]; rfl), Below.refl _ _⟩
          · have u1 := decide_eq_false c1
            rw [u1] at hR2
            have E := Aside0.mk (show Value.tuple #[.int .i64 V, .int .i64 ((i : Int) + 1 + (ds.length : Int)), .bool false] = RES from hR2)
            clear hR2
            go_wp2_with (fail)
            go_ret3
            exact ⟨by first | (rw [← E.out]; rfl) | (rw [← E.out, ← hwn]; rfl), Below.refl _ _⟩
  | false =>
    have hc : ¬ S[i]'hi = 45 := beq_eq_false_iff_ne.mp hneg
    have hc2 : ¬ (S[i]'hi).toNat = 45 := fun h => hc (UInt8.toNat_inj.mp h)
    have t1 : ((((bs S)[i]'(show i < (bs S).size by rw [bs_size]; exact hi)).toNat : Int) == 45) = false := beq_eq_false_iff_ne.mpr (by rw [hbt]; omega)
    obtain rfl : j = i := hj
    clear hneg hc hc2 hbt
    go_enter Try.func17, Try.ntmps17
    obtain ⟨ds, hds⟩ : ∃ ds, (S.drop j).takeWhile isDB = ds := ⟨_, rfl⟩
    have hdg : ∀ c ∈ ds, isDg c := by rw [← hds]; exact tw_dg _
    have hlen := tw_len isDB S j (by omega)
    rw [hds] at hlen
    have hcb := capT_bound ds hdg
    obtain ⟨b9, hb9⟩ : ∃ b9, headIs isDB (S.drop j) = b9 := ⟨_, rfl⟩
    go_wp2_with (fail)
    refine (digit_calls S j _).mono ?_
    rintro e w' ⟨rfl, rfl⟩
    rw [hb9]
    go_wp2_with (fail)
    go_loopw [1, 8] (fun u v w' => ∃ m : Nat, u = .int .i64 ((j + m : Nat) : Int) ∧ v = .int .i64 (capT (ds.take m)) ∧ m ≤ ds.length ∧ w' = w) (fun u _ _ => S.length - (intOf u).toNat)
    case atStart => exact ⟨0, by simp, rfl, by omega, rfl⟩
    case round =>
      obtain ⟨m, rfl, rfl, hm, rfl⟩ := hrel
      go_wp2_with (fail)
      refine (digit_calls S (j + m) _).mono ?_
      rintro e w' ⟨rfl, rfl⟩
      by_cases hlt : m < ds.length
      · have ht := tw_in isDB S j m (by rw [hds]; exact hlt)
        obtain ⟨h2, h3, h4, h5⟩ := ht
        have hcm := capT_bound (ds.take m) (fun c hc => hdg c (List.mem_of_mem_take hc))
        have hst := capT_snoc (ds.take m) (ds[m]'hlt)
        rw [List.take_append_getElem hlt] at hst
        have h6 : S[j + m]'h2 = ds[m]'hlt := by rw [h3]; simp only [hds]
        have hbt := bs_get S (j + m) h2
        rw [h6] at hbt
        have hg := hdg (ds[m]'hlt) (List.getElem_mem hlt)
        obtain ⟨c, hc⟩ : ∃ c, ds[m]'hlt = c := ⟨_, rfl⟩
        rw [hc] at hbt hst hg
        obtain ⟨r, hr⟩ : ∃ r : Int, (c.toNat : Int) = r := ⟨_, rfl⟩
        obtain ⟨g0, g1⟩ := hg
        have hbt2 : (((bs S)[j + m]'(show j + m < (bs S).size by rw [bs_size]; exact h2)).toNat : Int) = r := by rw [hbt, hr]
        rw [hr] at hst
        obtain ⟨V, hV⟩ : ∃ V, capT (ds.take m) = V := ⟨_, rfl⟩
        rw [hV] at hst hcm ⊢
        have r0 : 48 ≤ r := by omega
        have r1 : r ≤ 57 := by omega
        rw [h5]
        have HST := Aside0.mk hst
        have HLT := Aside0.mk hlt
        have hu : IntKind.u8.wrap (r - 48) = r - 48 := by rw [u8w]; omega
        have hw1 : wrap64 (10 * V) = 10 * V := wrap64_id _ (by omega)
        have hw2 : wrap64 (10 * V + (r - 48)) = 10 * V + (r - 48) := wrap64_id _ (by omega)
        clear h3 h4 h5 h6 hbt hst hds hdg hc hV hr g0 g1 hcb
        go_wp2_with (fail)
        exact ⟨⟨m + 1, by simp only [Int.natCast_add]; rfl, by rw [HST.out], by omega, trivial⟩, by simp only [intOf]; omega⟩
      · obtain rfl : m = ds.length := by omega
        have ht := tw_out isDB S j
        rw [hds] at ht
        rw [ht, List.take_length]
        have hpos : ((j + ds.length : Nat) : Int) = ((j : Int) + (ds.length : Int)) := by omega
        obtain ⟨V, hV⟩ : ∃ V, capT ds = V := ⟨_, rfl⟩; rw [hV]; have hnv : numV false ds = V := hV
        have hok : numOk false ds (S.drop (j + ds.length)) = (b9 && (decide (-2147483648 ≤ V) && (decide (V < 2147483648) && !headIs isLB (S.drop (j + ds.length))))) := by
          rw [numOk, hnv, ← hds, ← tw_h2, hb9]
        have hR2 : Value.tuple #[.int .i64 V, .int .i64 ((j : Int) + (ds.length : Int)), .bool (b9 && (decide (-2147483648 ≤ V) && (decide (V < 2147483648) && !headIs isLB (S.drop (j + ds.length)))))] = RES := by
          rw [← hok, ← hnv, ← hpos, ← hds, ← hRES]
        clear hok hnv hRES hb9 hV hds hdg hcb ht
        obtain ⟨L, hL⟩ : ∃ L, headIs isLB (S.drop (j + ds.length)) = L := ⟨_, rfl⟩
        rw [hL] at hR2
        cases b9 with
        | false =>
          have E := Aside0.mk (show Value.tuple #[.int .i64 V, .int .i64 ((j : Int) + (ds.length : Int)), .bool false] = RES from hR2)
          clear hR2
          go_wp2_with (fail)
          go_ret3
          exact ⟨by first | (rw [← E.out]; rfl) | (rw [← E.out, ← hwn]; rfl), Below.refl _ _⟩
        | true =>
          by_cases c1 : -2147483648 ≤ V
          · have u1 := decide_eq_true c1
            by_cases c2 : V < 2147483648
            · have u2 := decide_eq_true c2
              rw [u1, u2] at hR2
              have E := Aside0.mk (show Value.tuple #[.int .i64 V, .int .i64 ((j : Int) + (ds.length : Int)), .bool (!L)] = RES from hR2)
              clear hR2
              go_wp2_with (fail)
              refine (letter_calls' S (j + ds.length) _ (by omega) _).mono ?_
              rintro e w' ⟨rfl, rfl⟩
              rw [hL]
              clear hL
              cases L
              · go_wp2
                go_ret3
                exact ⟨by first | (rw [← E.out]; rfl) | (rw [← E.out, ← hwn]; rfl), Below.refl _ _⟩
              · go_wp2
                go_ret3
                exact ⟨by first | (rw [← E.out]; rfl) | (rw [← E.out, ← hwn]; rfl), Below.refl _ _⟩
            · have u2 := decide_eq_false c2
              rw [u1, u2] at hR2
              have E := Aside0.mk (show Value.tuple #[.int .i64 V, .int .i64 ((j : Int) + (ds.length : Int)), .bool false] = RES from hR2)
              clear hR2
              go_wp2_with (fail)
              go_ret3
              exact ⟨by first | (rw [← E.out]; rfl) | (rw [← E.out, ← hwn]; rfl), Below.refl _ _⟩
          · have u1 := decide_eq_false c1
            rw [u1] at hR2
            have E := Aside0.mk (show Value.tuple #[.int .i64 V, .int .i64 ((j : Int) + (ds.length : Int)), .bool false] = RES from hR2)
            clear hR2
            go_wp2_with (fail)
            go_ret3
            exact ⟨by first | (rw [← E.out]; rfl) | (rw [← E.out, ← hwn]; rfl), Below.refl _ _⟩
end Go.Proofs.Ythnmaaoafogbiaa.Lex
