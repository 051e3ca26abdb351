/- Plain laws: goT by words. -/
import Derived.Test.YthnmaaoafogbiaaLexA1
namespace Go.Proofs.Ythnmaaoafogbiaa.Lex
set_option linter.unusedSimpArgs false
set_option linter.unusedVariables false
open Go.RowKit Go.Proofs.YthnmaaoafogbiaaW.PrintWords Go.Proofs.YthnmaaoafogbiaaW.PrintLast Go.Proofs.YthnmaaoafogbiaaW.PrintMore PLexAll Go.Proofs.YthnmaaoafogbiaaW.Canon

theorem byteT_plain {c : UInt8} {x : TX} (h : ¬ c.toNat = 10) (hr : x.rem = false) : byteT c x = plainI c.toNat x := by
  rw [byteT, if_neg h, if_neg (by rw [hr]; exact Bool.false_ne_true)]
theorem nextT_eq {c : UInt8} {x : TX} (h : ¬ c.toNat = 10) : nextT c x = byteT c x := by rw [nextT, if_neg h]
/-- One byte, not bad. -/
theorem goT_one {c : UInt8} {r : List UInt8} {x y : TX} (h : ¬ c.toNat = 10) (hb : byteT c x = y) (hy : y.bad = false) : goT (c :: r) x = goT r y := by
  rw [goT_cons, nextT_eq h, hb, if_neg (by rw [hy]; exact Bool.false_ne_true)]
theorem goT_one_bad {c : UInt8} {r : List UInt8} {x : TX} (hb : (byteT c x).bad = true) : goT (c :: r) x = .inl x.line := by
  rw [goT_cons, if_pos hb, byteT_line]
theorem plain_blank {r : Int} {x : TX} (h : r = 32 ∨ r = 9 ∨ r = 13) : plainI r x = endT x := by
  unfold plainI
  rw [if_neg (by omega), if_neg (by omega), if_pos h]
theorem plain_note {x : TX} : plainI 35 x = { endT x with rem := true } := by
  unfold plainI
  rw [if_neg (by omega), if_neg (by omega), if_neg (by omega), if_pos rfl]
theorem plain_minus {x : TX} : plainI 45 x = { endT x with kind := 2, less := true } := by
  unfold plainI
  rw [if_neg (by omega), if_neg (by omega), if_neg (by omega), if_neg (by omega), if_pos rfl]
theorem plain_sign {r : Int} {x : TX} (h : r = 58 ∨ r = 44) : plainI r x = { endT x with l := (endT x).l ++ [⟨3, bs [ch r], 0, (endT x).line⟩] } := by
  unfold plainI
  rw [if_neg (by omega), if_neg (by omega), if_neg (by omega), if_neg (by omega), if_neg (by omega), if_pos h]
theorem plain_letter {r : Int} {x : TX} (h : 97 ≤ r ∧ r ≤ 122) : plainI r x = moreT 1 (ch r) x := by
  unfold plainI
  rw [if_pos h]
theorem plain_bad {r : Int} {x : TX} (h1 : ¬ (97 ≤ r ∧ r ≤ 122)) (h2 : ¬ (48 ≤ r ∧ r ≤ 57)) (h3 : ¬ (r = 32 ∨ r = 9 ∨ r = 13)) (h4 : ¬ r = 35) (h5 : ¬ r = 45) (h6 : ¬ (r = 58 ∨ r = 44)) : plainI r x = { x with bad := true } := by
  unfold plainI
  rw [if_neg h1, if_neg h2, if_neg h3, if_neg h4, if_neg h5, if_neg h6]
theorem endT_clean (l : List S31) (n : Int) : endT (cleanT l n) = cleanT l n := rfl
theorem ch_of (c : UInt8) : ch (c.toNat : Int) = c := by rw [ch, Int.toNat_natCast, UInt8.ofNat_toNat]
theorem isLB_iff (c : UInt8) : isLB c = true ↔ (97 ≤ c.toNat ∧ c.toNat ≤ 122) := by simp [isLB]
theorem go_blank {c : UInt8} (h : c.toNat = 32 ∨ c.toNat = 9 ∨ c.toNat = 13) (r : List UInt8) (l : List S31) (n : Int) : goT (c :: r) (cleanT l n) = goT r (cleanT l n) := by
  have h10 : ¬ c.toNat = 10 := by omega
  refine goT_one h10 ?_ rfl
  rw [byteT_plain h10 rfl, plain_blank (by omega), endT_clean]
theorem go_newline (r : List UInt8) (l : List S31) (n : Int) : goT (10 :: r) (cleanT l n) = goT r (cleanT (shutL n l) (n + 1)) := by
  rw [goT_cons]
  rfl
theorem go_fin (l : List S31) (n : Int) : goT [] (cleanT l n) = .inr (cleanT (shutL n l) n) := rfl
theorem go_sign {c : UInt8} (h : c.toNat = 58 ∨ c.toNat = 44) (r : List UInt8) (l : List S31) (n : Int) : goT (c :: r) (cleanT l n) = goT r (cleanT (l ++ [⟨3, bs [c], 0, n⟩]) n) := by
  have h10 : ¬ c.toNat = 10 := by omega
  refine goT_one h10 ?_ rfl
  rw [byteT_plain h10 rfl, plain_sign (by omega), ch_of, endT_clean]
  rfl
theorem go_bad {c : UInt8} (h10 : ¬ c.toNat = 10) (h1 : isLB c = false) (h2 : isDB c = false) (h3 : ¬ (c.toNat = 32 ∨ c.toNat = 9 ∨ c.toNat = 13)) (h4 : ¬ c.toNat = 35) (h5 : ¬ c.toNat = 45) (h6 : ¬ (c.toNat = 58 ∨ c.toNat = 44)) (r : List UInt8) (l : List S31) (n : Int) :
    goT (c :: r) (cleanT l n) = .inl n := by
  have h1' : ¬ (97 ≤ c.toNat ∧ c.toNat ≤ 122) := fun h => by rw [(isLB_iff c).mpr h] at h1; cases h1
  have h2' : ¬ (48 ≤ c.toNat ∧ c.toNat ≤ 57) := fun h => by rw [(isDB_iff c).mpr h] at h2; cases h2
  refine goT_one_bad ?_
  rw [byteT_plain h10 rfl, plain_bad (by omega) (by omega) (by omega) (by omega) (by omega) (by omega)]
def isN (c : UInt8) : Bool := !(c.toNat == 10)
theorem go_note (Y : List UInt8) (hY : ∃ r, Y = 35 :: r) (l : List S31) (n : Int) : goT Y (cleanT l n) = goT (Y.drop (Y.takeWhile isN).length) (cleanT l n) := by
  obtain ⟨r, rfl⟩ := hY
  have h35 : (isN 35) = true := by decide
  rw [List.takeWhile_cons_of_pos h35, List.length_cons, List.drop_succ_cons]
  have h1 : goT (35 :: r) (cleanT l n) = goT r { cleanT l n with rem := true } := by
    refine goT_one (by decide) ?_ rfl
    rw [byteT_plain (by decide) rfl, show (((35 : UInt8).toNat : Nat) : Int) = 35 from rfl, plain_note, endT_clean]
  rw [h1]
  conv => lhs; rw [← List.takeWhile_append_dropWhile (p := isN) (l := r)]
  rw [goT_append, run_rem rfl rfl _ (fun c hc => ?_)]
  · have hd : r.dropWhile isN = r.drop (r.takeWhile isN).length := by
      conv => rhs; rw [← List.takeWhile_append_dropWhile (p := isN) (l := r)]
      rw [List.drop_left' (by rw [List.takeWhile_append_dropWhile])]
    simp only
    rw [hd]
    refine goT_close ?_ rfl
    have hh := head_take isN r
    cases hq : r.drop (r.takeWhile isN).length with
    | nil => exact .inl rfl
    | cons c q =>
      rw [hq] at hh
      have hc : isN c = false := hh
      have hc2 : c.toNat = 10 := by simpa [isN] using hc
      exact .inr ⟨q, by rw [show c = 10 from UInt8.toNat_inj.mp hc2]⟩
  · have := List.all_eq_true.mp List.all_takeWhile c hc
    simpa [isN] using this
/-- What is under way ends where no letter and no digit follows. -/
theorem settle (q : List UInt8) (h1 : headIs isLB q = false) (h2 : headIs isDB q = false) {x : TX} (hf : Fine x) (hr : x.rem = false) :
    ((endT x).bad = false → goT q x = goT q (endT x)) ∧ ((endT x).bad = true → goT q x = .inl x.line) := by
  have he := endT_end hf
  have hl : (endT x).line = x.line := (endT_facts x).1
  have hrem : (endT x).rem = false := by rw [(endT_fine hf).2.2.2.1, hr]
  have hclose : closeT (endT x) = closeT x := closeT_end hf
  have hcb : (closeT x).bad = (endT x).bad := rfl
  cases q with
  | nil =>
    refine ⟨fun hb => (goT_close (.inl rfl) hclose).symm, fun hb => ?_⟩
    show (if (closeT x).bad = true then Sum.inl (closeT x).line else Sum.inr (closeT x)) = _
    rw [if_pos (by rw [hcb, hb]), (closeT_facts x).1]
  | cons c r =>
    by_cases h10 : c.toNat = 10
    · have hc : c = 10 := UInt8.toNat_inj.mp h10
      subst hc
      refine ⟨fun hb => (goT_close (.inr ⟨r, rfl⟩) hclose).symm, fun hb => goT_one_bad ?_⟩
      show (closeT x).bad = true
      rw [hcb, hb]
    · have h1' : ¬ (97 ≤ c.toNat ∧ c.toNat ≤ 122) := fun h => by
        have h3 : isLB c = false := h1
        rw [(isLB_iff c).mpr h] at h3; cases h3
      have h2' : ¬ (48 ≤ c.toNat ∧ c.toNat ≤ 57) := fun h => by
        have h3 : isDB c = false := h2
        rw [(isDB_iff c).mpr h] at h3; cases h3
      have hx := byteT_plain (c := c) (x := x) h10 hr
      have hy := byteT_plain (c := c) (x := endT x) h10 hrem
      by_cases k1 : c.toNat = 32 ∨ c.toNat = 9 ∨ c.toNat = 13
      · rw [plain_blank (by omega)] at hx hy
        rw [he] at hy
        exact ⟨fun hb => by rw [goT_one h10 hx hb, goT_one h10 hy hb], fun hb => goT_one_bad (by rw [hx, hb])⟩
      by_cases k2 : c.toNat = 35
      · rw [show ((c.toNat : Nat) : Int) = 35 by omega, plain_note] at hx hy
        rw [he] at hy
        exact ⟨fun hb => by rw [goT_one h10 hx hb, goT_one h10 hy hb], fun hb => goT_one_bad (by rw [hx]; exact hb)⟩
      by_cases k3 : c.toNat = 45
      · rw [show ((c.toNat : Nat) : Int) = 45 by omega, plain_minus] at hx hy
        rw [he] at hy
        exact ⟨fun hb => by rw [goT_one h10 hx hb, goT_one h10 hy hb], fun hb => goT_one_bad (by rw [hx]; exact hb)⟩
      by_cases k4 : c.toNat = 58 ∨ c.toNat = 44
      · rw [plain_sign (by omega)] at hx hy
        rw [he] at hy
        exact ⟨fun hb => by rw [goT_one h10 hx hb, goT_one h10 hy hb], fun hb => goT_one_bad (by rw [hx]; exact hb)⟩
      · rw [plain_bad (by omega) (by omega) (by omega) (by omega) (by omega) (by omega)] at hx hy
        refine ⟨fun hb => ?_, fun hb => goT_one_bad (by rw [hx])⟩
        rw [goT_one_bad (by rw [hx]), goT_one_bad (by rw [hy]), hl]
theorem run_letters (ws : List UInt8) (h : ∀ c ∈ ws, isLB c = true) (l : List S31) (n : Int) : ∀ s, runT ws ⟨l, n, 1, s, false, false, false⟩ = .inr ⟨l, n, 1, s ++ ws, false, false, false⟩ := by
  induction ws with
  | nil => intro s; rw [List.append_nil]; rfl
  | cons c ws ih =>
    intro s
    obtain ⟨c0, c1⟩ := (isLB_iff c).mp (h c List.mem_cons_self)
    have h10 : ¬ c.toNat = 10 := by omega
    have hb : byteT c ⟨l, n, 1, s, false, false, false⟩ = ⟨l, n, 1, s ++ [c], false, false, false⟩ := by
      rw [byteT_plain h10 rfl, plain_letter (by omega), ch_of]
      rfl
    rw [runT_cons, nextT_eq h10, hb, if_neg (show ¬ false = true by decide), ih (fun c hc => h c (List.mem_cons_of_mem _ hc)), List.append_assoc]
    rfl
theorem run_word (ws : List UInt8) (h : ∀ c ∈ ws, isLB c = true) (hne : ws ≠ []) (l : List S31) (n : Int) : runT ws (cleanT l n) = .inr ⟨l, n, 1, ws, false, false, false⟩ := by
  cases ws with
  | nil => exact absurd rfl hne
  | cons c ws =>
    obtain ⟨c0, c1⟩ := (isLB_iff c).mp (h c List.mem_cons_self)
    have h10 : ¬ c.toNat = 10 := by omega
    have hb : byteT c (cleanT l n) = ⟨l, n, 1, [c], false, false, false⟩ := by
      rw [byteT_plain h10 rfl, plain_letter (by omega), ch_of]
      rfl
    rw [runT_cons, nextT_eq h10, hb, if_neg (show ¬ false = true by decide), run_letters ws (fun c hc => h c (List.mem_cons_of_mem _ hc))]
    rfl
theorem split_at (p : UInt8 → Bool) (Y : List UInt8) : Y = Y.takeWhile p ++ Y.drop (Y.takeWhile p).length := by
  conv => lhs; rw [← List.takeWhile_append_dropWhile (p := p) (l := Y)]
  congr 1
  conv => rhs; rw [← List.takeWhile_append_dropWhile (p := p) (l := Y)]
  rw [List.drop_left' (by rw [List.takeWhile_append_dropWhile])]
theorem goT_run_app {a b : List UInt8} {x y : TX} (h : runT a x = .inr y) : goT (a ++ b) x = goT b y := by rw [goT_append, h]
/-- A word. -/
theorem go_word (Y : List UInt8) (hY : headIs isLB Y = true) (l : List S31) (n : Int) :
    (headIs isDB (Y.drop (Y.takeWhile isLB).length) = true → goT Y (cleanT l n) = .inl n) ∧
    (headIs isDB (Y.drop (Y.takeWhile isLB).length) = false → goT Y (cleanT l n) = goT (Y.drop (Y.takeWhile isLB).length) (cleanT (l ++ [⟨1, bs (Y.takeWhile isLB), 0, n⟩]) n)) := by
  have hne : Y.takeWhile isLB ≠ [] := by
    cases Y with
    | nil => cases hY
    | cons c r => rw [List.takeWhile_cons_of_pos (show isLB c = true from hY)]; simp
  have hall : ∀ c ∈ Y.takeWhile isLB, isLB c = true := fun c hc => List.all_eq_true.mp List.all_takeWhile c hc
  have hhead := head_take isLB Y
  have hs := split_at isLB Y
  have hrun := run_word _ hall hne l n
  generalize hws : Y.takeWhile isLB = ws at *
  generalize hq : Y.drop ws.length = q at *
  have hg : goT Y (cleanT l n) = goT q ⟨l, n, 1, ws, false, false, false⟩ := by
    rw [hs]
    exact goT_run_app hrun
  rw [hg]
  constructor
  · intro hd
    cases q with
    | nil => cases hd
    | cons c r =>
      obtain ⟨c0, c1⟩ := (isDB_iff c).mp hd
      have h10 : ¬ c.toNat = 10 := by omega
      refine goT_one_bad ?_
      rw [byteT_plain h10 rfl]
      unfold plainI
      rw [if_neg (by omega), if_pos (by omega)]
      rfl
  · intro hd
    have hf : Fine ⟨l, n, 1, ws, false, false, false⟩ := ⟨rfl, .inr (.inl rfl), fun h => by cases h⟩
    exact (settle q hhead hd hf rfl).1 rfl
theorem mn_cases (x A : Int) : (x ≤ A ∧ mn x A = x) ∨ (A < x ∧ mn x A = A) := by
  simp only [mn]
  split <;> omega
theorem num_key (W : Int) (hW : 0 ≤ W) (neg e : Bool) :
    ((!e) && (decide (-2147483648 ≤ (if neg = true then -(mn W 1099511627776) else mn W 1099511627776)) && (decide ((if neg = true then -(mn W 1099511627776) else mn W 1099511627776) < 2147483648) && !false))) =
      !(false || (e || (decide ((if neg = true then -(mn W 2147483649) else mn W 2147483649) < -2147483648) || decide (2147483647 < (if neg = true then -(mn W 2147483649) else mn W 2147483649))))) ∧
    (((!e) && (decide (-2147483648 ≤ (if neg = true then -(mn W 1099511627776) else mn W 1099511627776)) && (decide ((if neg = true then -(mn W 1099511627776) else mn W 1099511627776) < 2147483648) && !false))) = true →
      (if neg = true then -(mn W 2147483649) else mn W 2147483649) = (if neg = true then -(mn W 1099511627776) else mn W 1099511627776)) := by
  have h1 := mn_cases W 1099511627776
  have h2 := mn_cases W 2147483649
  generalize mn W 1099511627776 = a at *
  generalize mn W 2147483649 = b at *
  rw [Bool.eq_iff_iff]
  simp only [Bool.and_eq_true, decide_eq_true_eq, Bool.not_eq_true', Bool.or_eq_false_iff, decide_eq_false_iff_not, Bool.not_false, Bool.false_or]
  cases neg <;> cases e <;> simp only [Bool.false_eq_true, if_true, if_false] <;> refine ⟨⟨?_, ?_⟩, ?_⟩ <;> rintro h <;> (try simp at h) <;> (try simp) <;> (try omega)
/-- A number. -/
theorem go_num0 (neg : Bool) (ds q : List UInt8) (hds : ∀ c ∈ ds, isDg c) (hq : headIs isDB q = false) (l : List S31) (n : Int) :
    (numOk neg ds q = false → goT q ⟨l, n, 2, ds, neg, false, false⟩ = .inl n) ∧
    (numOk neg ds q = true → goT q ⟨l, n, 2, ds, neg, false, false⟩ = goT q (cleanT (l ++ [⟨2, bs [], numV neg ds, n⟩]) n)) := by
  have hf : Fine ⟨l, n, 2, ds, neg, false, false⟩ := ⟨rfl, .inr (.inr rfl), fun h => by cases h⟩
  have hW := worth_nonneg ds hds
  have hn1 := numOf_worth ds hds
  have hc1 := capT_worth ds hds
  have hemp : headIs isDB ds = !ds.isEmpty := by
    cases ds with
    | nil => rfl
    | cons c r => exact (isDB_iff c).mpr (hds c List.mem_cons_self)
  by_cases hL : headIs isLB q = true
  · have hno : numOk neg ds q = false := by simp [numOk, hL]
    rw [hno]
    refine ⟨fun _ => ?_, fun h => by cases h⟩
    cases q with
    | nil => cases hL
    | cons c r =>
      obtain ⟨c0, c1⟩ := (isLB_iff c).mp hL
      have h10 : ¬ c.toNat = 10 := by omega
      refine goT_one_bad ?_
      rw [byteT_plain h10 rfl, plain_letter (by omega)]
      rfl
  · have hL' := Bool.eq_false_iff.mpr hL
    have hs := settle q hL' hq hf rfl
    have hend : endT ⟨l, n, 2, ds, neg, false, false⟩ = ⟨l ++ [⟨2, bs [], signed neg (numOf ds), n⟩], n, 0, [], false, false, wrong false ds (signed neg (numOf ds))⟩ := rfl
    have key : numOk neg ds q = !(wrong false ds (signed neg (numOf ds))) ∧ (numOk neg ds q = true → signed neg (numOf ds) = numV neg ds) := by
      rw [numOk, hL', hemp, wrong, hn1, numV, signed, hc1]
      exact num_key (worth ds) hW neg ds.isEmpty
    rw [hend] at hs
    obtain ⟨k1, k2⟩ := key
    constructor
    · intro h
      rw [h] at k1
      refine hs.2 ?_
      show wrong false ds (signed neg (numOf ds)) = true
      simpa using k1.symm
    · intro h
      have k3 := k2 h
      rw [h] at k1
      have hw : wrong false ds (signed neg (numOf ds)) = false := by simpa using k1.symm
      rw [hw] at hs
      rw [hs.1 rfl, k3]
      rfl
theorem go_number (Y : List UInt8) (neg : Bool) (r : List UInt8) (hY : if neg = true then Y = 45 :: r else (Y = r ∧ headIs isDB r = true)) (l : List S31) (n : Int) :
    (numOk neg (r.takeWhile isDB) (r.drop (r.takeWhile isDB).length) = false → goT Y (cleanT l n) = .inl n) ∧
    (numOk neg (r.takeWhile isDB) (r.drop (r.takeWhile isDB).length) = true → goT Y (cleanT l n) = goT (r.drop (r.takeWhile isDB).length) (cleanT (l ++ [⟨2, bs [], numV neg (r.takeWhile isDB), n⟩]) n)) := by
  have hhead := head_take isDB r
  have hs := split_at isDB r
  have hall := tw_dg r
  have h0 := go_num0 neg (r.takeWhile isDB) (r.drop (r.takeWhile isDB).length) hall hhead l n
  have hne : headIs isDB r = true → r.takeWhile isDB ≠ [] := fun h => by
    cases r with
    | nil => cases h
    | cons c r => rw [List.takeWhile_cons_of_pos (show isDB c = true from h)]; simp
  have hg : goT Y (cleanT l n) = goT (r.drop (r.takeWhile isDB).length) ⟨l, n, 2, r.takeWhile isDB, neg, false, false⟩ := by
    cases neg with
    | true =>
      have hY' : Y = 45 :: r := hY
      rw [hY']
      have h1 : goT (45 :: r) (cleanT l n) = goT r ⟨l, n, 2, [], true, false, false⟩ := by
        refine goT_one (by decide) ?_ rfl
        rw [byteT_plain (by decide) rfl, show (((45 : UInt8).toNat : Nat) : Int) = 45 from rfl, plain_minus, endT_clean]
        rfl
      rw [h1]
      conv => lhs; rw [hs]
      exact goT_run_app (run_digits _ hall l n true [])
    | false =>
      obtain ⟨hY1, hY2⟩ : Y = r ∧ headIs isDB r = true := hY
      rw [hY1]
      conv => lhs; rw [hs]
      exact goT_run_app (run_digits0 _ hall (hne hY2) l n)
  rw [hg]
  exact h0
end Go.Proofs.Ythnmaaoafogbiaa.Lex
