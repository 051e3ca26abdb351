/- Plain laws of goT. -/
import Derived.Test.YthnmaaoafogbiaaLex6
namespace Go.Proofs.Ythnmaaoafogbiaa.Lex
set_option linter.unusedSimpArgs false
set_option linter.unusedVariables false
open Go.RowKit Go.Proofs.YthnmaaoafogbiaaW.PrintWords Go.Proofs.YthnmaaoafogbiaaW.PrintLast Go.Proofs.YthnmaaoafogbiaaW.PrintMore PLexAll Go.Proofs.YthnmaaoafogbiaaW.Canon

/-- One byte, the line counted. -/
def nextT (c : UInt8) (x : TX) : TX := if c.toNat = 10 then { byteT c x with line := (byteT c x).line + 1 } else byteT c x
/-- Bytes, the text not ended. -/
def runT : List UInt8 → TX → Int ⊕ TX
  | [], x => .inr x
  | c :: l, x => if (byteT c x).bad = true then .inl (byteT c x).line else runT l (nextT c x)
theorem goT_append (a b : List UInt8) : ∀ x, goT (a ++ b) x = (match runT a x with | .inl n => .inl n | .inr y => goT b y) := by
  induction a with
  | nil => intro x; rfl
  | cons c a ih =>
    intro x
    show (if (byteT c x).bad = true then _ else goT (a ++ b) (nextT c x)) = (match (if (byteT c x).bad = true then _ else runT a (nextT c x)) with | .inl n => .inl n | .inr y => goT b y)
    split
    · rfl
    · exact ih _
theorem runT_append (a b : List UInt8) : ∀ x, runT (a ++ b) x = (match runT a x with | .inl n => .inl n | .inr y => runT b y) := by
  induction a with
  | nil => intro x; rfl
  | cons c a ih =>
    intro x
    show (if (byteT c x).bad = true then _ else runT (a ++ b) (nextT c x)) = (match (if (byteT c x).bad = true then _ else runT a (nextT c x)) with | .inl n => .inl n | .inr y => runT b y)
    split
    · rfl
    · exact ih _
/-- Nothing under way. -/
def cleanT (l : List S31) (line : Int) : TX := ⟨l, line, 0, [], false, false, false⟩
theorem run_a1 (l : List S31) (line : Int) : ∃ l', runT [97, 32, 49, 10] (cleanT l line) = .inr (cleanT l' (line + 1)) := ⟨_, rfl⟩
def aList : Nat → List UInt8
  | 0 => []
  | n + 1 => aList n ++ [97, 32, 49, 10]
theorem aList_len (n : Nat) : (aList n).length = 4 * n := by
  induction n with
  | zero => rfl
  | succ n ih => rw [aList, List.length_append, ih]; simp; omega
theorem run_aList (n : Nat) : ∃ l, runT (aList n) x0 = .inr (cleanT l (n + 1)) := by
  induction n with
  | zero => exact ⟨[], rfl⟩
  | succ n ih =>
    obtain ⟨l, hl⟩ := ih
    obtain ⟨l', hl'⟩ := run_a1 l (n + 1)
    refine ⟨l', ?_⟩
    rw [aList, runT_append, hl]
    simp only
    rw [hl']
    congr 2
def okB (r : Int) : Bool :=
  decide (97 ≤ r ∧ r ≤ 122) || decide (48 ≤ r ∧ r ≤ 57) || decide (r = 32) || decide (r = 9) || decide (r = 13) || decide (r = 10) || decide (r = 35) || decide (r = 58) || decide (r = 44)
theorem last_byte (l : List S31) (line : Int) (c : UInt8) :
    (okB c.toNat = true → ∃ y, goT [c] (cleanT l line) = .inr y) ∧ (okB c.toNat = false → goT [c] (cleanT l line) = .inl line) := by
  by_cases h10 : c.toNat = 10
  · have hc : c = 10 := UInt8.toNat_inj.mp h10
    subst hc
    exact ⟨fun _ => ⟨_, rfl⟩, fun h => absurd ((show okB ((10 : UInt8).toNat) = true by decide).symm.trans h) (by decide)⟩
  have hb : byteT c (cleanT l line) = plainI c.toNat (cleanT l line) := by rw [byteT, if_neg h10]; rfl
  have hg : goT [c] (cleanT l line) = if (plainI c.toNat (cleanT l line)).bad = true then .inl (plainI c.toNat (cleanT l line)).line else (if (closeT (plainI c.toNat (cleanT l line))).bad = true then .inl (closeT (plainI c.toNat (cleanT l line))).line else .inr (closeT (plainI c.toNat (cleanT l line)))) := by
    rw [goT, hb, if_neg h10]; rfl
  rw [hg]
  generalize hr : (c.toNat : Int) = r
  have h0 : 0 ≤ r := by omega
  have h10' : ¬ r = 10 := by omega
  clear hg hb h10
  by_cases h1 : 97 ≤ r ∧ r ≤ 122
  · have hp : plainI r (cleanT l line) = moreT 1 (ch r) (cleanT l line) := if_pos h1
    rw [hp]
    refine ⟨fun _ => ⟨closeT (moreT 1 (ch r) (cleanT l line)), rfl⟩, fun h => ?_⟩
    rw [okB, decide_eq_true h1] at h
    simp at h
  by_cases h2 : 48 ≤ r ∧ r ≤ 57
  · have hp : plainI r (cleanT l line) = moreT 2 (ch r) (cleanT l line) := by rw [plainI, if_neg h1, if_pos h2]
    rw [hp]
    have hn : ((ch r).toNat : Int) = r := (ch_nat r (by omega) (by omega)).1.symm
    have hm : numOf [ch r] = r - 48 := by
      show mn (0 * 10 + (((ch r).toNat : Int) - 48) % 256) 2147483649 = _
      rw [hn]
      simp only [mn]
      split <;> omega
    have hw : (closeT (moreT 2 (ch r) (cleanT l line))).bad = false := by
      show wrong false [ch r] (signed false (numOf [ch r])) = false
      rw [hm]
      simp only [wrong, signed]
      simp
      omega
    refine ⟨fun _ => ⟨closeT (moreT 2 (ch r) (cleanT l line)), ?_⟩, fun h => ?_⟩
    · rw [if_neg (show ¬ (moreT 2 (ch r) (cleanT l line)).bad = true from Bool.false_ne_true), hw]
      rfl
    · rw [okB, decide_eq_true h2] at h
      simp at h
  by_cases h3 : r = 32 ∨ r = 9 ∨ r = 13
  · have hp : plainI r (cleanT l line) = cleanT l line := by rw [plainI, if_neg h1, if_neg h2, if_pos h3]; rfl
    rw [hp]
    refine ⟨fun _ => ⟨_, rfl⟩, fun h => ?_⟩
    rcases h3 with rfl | rfl | rfl <;> exact absurd h (by decide)
  by_cases h4 : r = 35
  · have hp : plainI r (cleanT l line) = { cleanT l line with rem := true } := by rw [plainI, if_neg h1, if_neg h2, if_neg h3, if_pos h4]; rfl
    rw [hp]
    refine ⟨fun _ => ⟨_, rfl⟩, fun h => ?_⟩
    subst h4
    exact absurd h (by decide)
  by_cases h5 : r = 45
  · have hp : plainI r (cleanT l line) = { cleanT l line with kind := 2, less := true } := by rw [plainI, if_neg h1, if_neg h2, if_neg h3, if_neg h4, if_pos h5]; rfl
    rw [hp]
    refine ⟨fun h => ?_, fun _ => rfl⟩
    subst h5
    exact absurd h (by decide)
  by_cases h6 : r = 58 ∨ r = 44
  · have hp : plainI r (cleanT l line) = { cleanT l line with l := l ++ [⟨3, bs [ch r], 0, line⟩] } := by rw [plainI, if_neg h1, if_neg h2, if_neg h3, if_neg h4, if_neg h5, if_pos h6]; rfl
    rw [hp]
    refine ⟨fun _ => ⟨_, rfl⟩, fun h => ?_⟩
    rcases h6 with rfl | rfl <;> exact absurd h (by decide)
  · have hp : plainI r (cleanT l line) = { cleanT l line with bad := true } := by rw [plainI, if_neg h1, if_neg h2, if_neg h3, if_neg h4, if_neg h5, if_neg h6]
    rw [hp]
    refine ⟨fun h => ?_, fun _ => rfl⟩
    simp only [okB, Bool.or_eq_true, decide_eq_true_eq] at h
    omega
/-- A comment takes any byte. -/
theorem rem_byte (l : List S31) (line : Int) (c : UInt8) : ∃ y, goT [35, 32, c] (cleanT l line) = .inr y := by
  have h : goT [35, 32, c] (cleanT l line) = goT [c] { cleanT l line with rem := true } := rfl
  rw [h]
  by_cases h10 : c.toNat = 10
  · have hc : c = 10 := UInt8.toNat_inj.mp h10
    subst hc
    exact ⟨_, rfl⟩
  · have hb : byteT c { cleanT l line with rem := true } = { cleanT l line with rem := true } := by rw [byteT, if_neg h10]; rfl
    rw [goT, hb, if_neg h10]
    exact ⟨_, rfl⟩
theorem bl_bs (l : List UInt8) : bl (bs l) = l := rfl
theorem allT_bs (l : List UInt8) (h : l.length ≤ 8192) : allT (bs l) = (match goT l x0 with | .inl n => .inl (n, 3) | .inr x => .inr x.l) := by
  rw [allT, bs_size, if_neg (by omega), bl_bs]
  cases goT l x0 <;> rfl
theorem wrong_all (n : Nat) (hn : n ≤ 30) (c : UInt8) :
    (okB c.toNat = true → ∃ l, allT (bs (aList n ++ [c])) = .inr l) ∧ (okB c.toNat = false → allT (bs (aList n ++ [c])) = .inl ((n : Int) + 1, 3)) := by
  obtain ⟨l, hl⟩ := run_aList n
  have h := last_byte l (n + 1) c
  rw [allT_bs _ (by rw [List.length_append, aList_len]; simp; omega), goT_append, hl]
  simp only
  refine ⟨fun ho => ?_, fun ho => ?_⟩
  · obtain ⟨y, hy⟩ := h.1 ho
    exact ⟨y.l, by rw [hy]⟩
  · rw [h.2 ho]
theorem rem_all (n : Nat) (hn : n ≤ 30) (c : UInt8) : ∃ l, allT (bs (aList n ++ [35, 32, c])) = .inr l := by
  obtain ⟨l, hl⟩ := run_aList n
  obtain ⟨y, hy⟩ := rem_byte l (n + 1) c
  rw [allT_bs _ (by rw [List.length_append, aList_len]; simp; omega), goT_append, hl]
  exact ⟨y.l, by simp only; rw [hy]⟩
end Go.Proofs.Ythnmaaoafogbiaa.Lex
