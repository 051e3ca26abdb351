/- Plain laws of numbers. -/
import Derived.Test.YthnmaaoafogbiaaLex7
namespace Go.Proofs.Ythnmaaoafogbiaa.Lex
set_option linter.unusedSimpArgs false
set_option linter.unusedVariables false
open Go.RowKit Go.Proofs.YthnmaaoafogbiaaW.PrintWords Go.Proofs.YthnmaaoafogbiaaW.PrintLast Go.Proofs.YthnmaaoafogbiaaW.PrintMore PLexAll Go.Proofs.YthnmaaoafogbiaaW.Canon

def isDg (c : UInt8) : Prop := 48 ≤ c.toNat ∧ c.toNat ≤ 57
/-- A row of digits: its worth. -/
def worth (l : List UInt8) : Int := l.foldl (fun n c => n * 10 + ((c.toNat : Int) - 48)) 0
theorem worth_from (l : List UInt8) : ∀ n : Int, l.foldl (fun n c => n * 10 + ((c.toNat : Int) - 48)) n = n * 10 ^ l.length + worth l := by
  induction l with
  | nil => intro n; simp [worth]
  | cons c l ih =>
    intro n
    rw [worth, List.foldl_cons, List.foldl_cons, ih, ih (0 * 10 + _), List.length_cons, Int.pow_succ]
    generalize (10 : Int) ^ l.length = p
    generalize worth l = q
    generalize ((c.toNat : Int) - 48) = d
    rw [Int.add_mul, Int.add_mul, Int.mul_assoc, Int.mul_comm 10 p]
    omega
theorem worth_cons (c : UInt8) (l : List UInt8) : worth (c :: l) = ((c.toNat : Int) - 48) * 10 ^ l.length + worth l := by
  have h := worth_from l (0 * 10 + ((c.toNat : Int) - 48))
  rw [show (0 * 10 + ((c.toNat : Int) - 48)) = (c.toNat : Int) - 48 by omega] at h
  rw [← h, worth, List.foldl_cons]
  rw [show (0 * 10 + ((c.toNat : Int) - 48)) = (c.toNat : Int) - 48 by omega]
theorem worth_nonneg (l : List UInt8) (h : ∀ c ∈ l, isDg c) : 0 ≤ worth l := by
  suffices hh : ∀ n : Int, 0 ≤ n → 0 ≤ l.foldl (fun n c => n * 10 + ((c.toNat : Int) - 48)) n from hh 0 (by decide)
  induction l with
  | nil => intro n hn; exact hn
  | cons c l ih =>
    intro n hn
    have hc := (h c List.mem_cons_self).1
    exact ih (fun c hc => h c (List.mem_cons_of_mem _ hc)) _ (show 0 ≤ n * 10 + ((c.toNat : Int) - 48) by omega)
theorem numOf_worth (l : List UInt8) (h : ∀ c ∈ l, isDg c) : numOf l = mn (worth l) 2147483649 := by
  suffices hh : ∀ n m : Int, 0 ≤ n → m = mn n 2147483649 → l.foldl (fun n c => mn (n * 10 + ((c.toNat : Int) - 48) % 256) 2147483649) m = mn (l.foldl (fun n c => n * 10 + ((c.toNat : Int) - 48)) n) 2147483649 from hh 0 0 (by decide) (by decide)
  induction l with
  | nil => intro n m _ hm; exact hm
  | cons c l ih =>
    intro n m hn hm
    obtain ⟨c0, c1⟩ := h c List.mem_cons_self
    refine ih (fun c hc => h c (List.mem_cons_of_mem _ hc)) _ _ (show 0 ≤ n * 10 + ((c.toNat : Int) - 48) by omega) ?_
    show mn (m * 10 + ((c.toNat : Int) - 48) % 256) 2147483649 = mn (n * 10 + ((c.toNat : Int) - 48)) 2147483649
    rw [hm]
    simp only [mn]
    split <;> split <;> (try split) <;> omega
theorem run_digits (ds : List UInt8) (h : ∀ c ∈ ds, isDg c) (l : List S31) (line : Int) (less : Bool) : ∀ s, runT ds ⟨l, line, 2, s, less, false, false⟩ = .inr ⟨l, line, 2, s ++ ds, less, false, false⟩ := by
  induction ds with
  | nil => intro s; rw [List.append_nil]; rfl
  | cons c ds ih =>
    intro s
    obtain ⟨c0, c1⟩ := h c List.mem_cons_self
    have hc : ch (c.toNat : Int) = c := by rw [ch, Int.toNat_natCast, UInt8.ofNat_toNat]
    have hb : byteT c ⟨l, line, 2, s, less, false, false⟩ = ⟨l, line, 2, s ++ [c], less, false, false⟩ := by
      rw [byteT, if_neg (by omega), if_neg (by simp), plainI, if_neg (by omega), if_pos (by omega), hc]
      rfl
    rw [runT, nextT, hb, if_neg (by simp), if_neg (by omega), ih (fun c hc => h c (List.mem_cons_of_mem _ hc)), List.append_assoc]
    rfl
theorem run_digits0 (ds : List UInt8) (h : ∀ c ∈ ds, isDg c) (hne : ds ≠ []) (l : List S31) (line : Int) : runT ds (cleanT l line) = .inr ⟨l, line, 2, ds, false, false, false⟩ := by
  cases ds with
  | nil => exact absurd rfl hne
  | cons c ds =>
    obtain ⟨c0, c1⟩ := h c List.mem_cons_self
    have hc : ch (c.toNat : Int) = c := by rw [ch, Int.toNat_natCast, UInt8.ofNat_toNat]
    have hb : byteT c (cleanT l line) = ⟨l, line, 2, [c], false, false, false⟩ := by
      rw [byteT, if_neg (by omega), if_neg (by simp [cleanT]), plainI, if_neg (by omega), if_pos (by omega), hc]
      rfl
    rw [runT, nextT, hb, if_neg (by simp), if_neg (by omega), run_digits ds (fun c hc => h c (List.mem_cons_of_mem _ hc))]
    rfl
/-- The law's text: a line's end, a sign, digits. -/
def numText (neg : Bool) (ds : List UInt8) : List UInt8 := 10 :: ((if neg = true then [45] else []) ++ ds)
theorem run_num (neg : Bool) (ds : List UInt8) (h : ∀ c ∈ ds, isDg c) (hne : ds ≠ []) : runT (numText neg ds) x0 = .inr ⟨[], 2, 2, ds, neg, false, false⟩ := by
  have h1 : runT (numText neg ds) x0 = runT ((if neg = true then [45] else []) ++ ds) (cleanT [] 2) := rfl
  rw [h1]
  cases neg with
  | false =>
    rw [if_neg (by decide), List.nil_append]
    exact run_digits0 ds h hne [] 2
  | true =>
    rw [if_pos rfl, runT_append]
    have h2 : runT [45] (cleanT [] 2) = .inr ⟨[], 2, 2, [], true, false, false⟩ := rfl
    rw [h2]
    simp only
    rw [run_digits ds h]
    rfl
theorem num_cases (neg : Bool) (W n : Int) (hw : 0 ≤ W) (hn : n = if neg = true then -W else W) :
    ((n < -2147483648 ∨ 2147483648 ≤ n) → (signed neg (mn W 2147483649) < -2147483648 ∨ 2147483647 < signed neg (mn W 2147483649))) ∧ (¬ (n < -2147483648 ∨ 2147483648 ≤ n) → signed neg (mn W 2147483649) = n) := by
  cases neg with
  | true =>
    rw [if_pos rfl] at hn
    have e : signed true (mn W 2147483649) = -(mn W 2147483649) := rfl
    rw [e]
    simp only [mn]
    split <;> omega
  | false =>
    rw [if_neg Bool.false_ne_true] at hn
    have e : signed false (mn W 2147483649) = mn W 2147483649 := rfl
    rw [e]
    simp only [mn]
    split <;> omega
theorem all_num (neg : Bool) (ds : List UInt8) (h : ∀ c ∈ ds, isDg c) (hne : ds ≠ []) (hl : ds.length ≤ 8000) (n : Int) (hn : n = if neg = true then -worth ds else worth ds) :
    (allT (bs (numText neg ds)) = if n < -2147483648 ∨ 2147483648 ≤ n then .inl (2, 3) else .inr [⟨2, bs [], n, 2⟩, ⟨4, bs [], 0, 2⟩]) ∧ allT (bs (numText neg ds ++ [120])) = .inl (2, 3) := by
  have hlen : (numText neg ds).length ≤ 8002 := by
    rw [numText, List.length_cons, List.length_append]
    split <;> simp <;> omega
  have hw := worth_nonneg ds h
  constructor
  · rw [allT_bs _ (by omega)]
    have hg : goT (numText neg ds) x0 = goT [] ⟨[], 2, 2, ds, neg, false, false⟩ := by
      have := goT_append (numText neg ds) [] x0
      rw [List.append_nil, run_num neg ds h hne] at this
      exact this
    have hc : closeT ⟨[], 2, 2, ds, neg, false, false⟩ = ⟨[⟨2, bs [], signed neg (numOf ds), 2⟩, ⟨4, bs [], 0, 2⟩], 2, 0, [], false, false, wrong false ds (signed neg (numOf ds))⟩ := rfl
    rw [hg, goT, hc]
    have hnum := numOf_worth ds h
    have hemp : ds.isEmpty = false := by cases ds with | nil => exact absurd rfl hne | cons _ _ => rfl
    have hk := num_cases neg (worth ds) n hw hn
    rw [← hnum] at hk
    by_cases hb : n < -2147483648 ∨ 2147483648 ≤ n
    · have hwr : wrong false ds (signed neg (numOf ds)) = true := by
        rw [wrong, hemp]
        simp only [Bool.false_or, Bool.or_eq_true, decide_eq_true_eq]
        exact hk.1 hb
      rw [hwr, if_pos rfl, if_pos hb]
    · have hwr : wrong false ds (signed neg (numOf ds)) = false := by
        rw [wrong, hemp, (hk.2 hb)]
        simp only [Bool.false_or, Bool.or_eq_false_iff, decide_eq_false_iff_not]
        omega
      rw [hwr, if_neg Bool.false_ne_true, if_neg hb, hk.2 hb]
  · rw [allT_bs _ (by rw [List.length_append]; simp; omega), goT_append, run_num neg ds h hne]
    rfl
end Go.Proofs.Ythnmaaoafogbiaa.Lex
