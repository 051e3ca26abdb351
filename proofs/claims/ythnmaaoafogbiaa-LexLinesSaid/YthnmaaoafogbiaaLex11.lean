/- Plain laws: blanks, a comment, an empty line at a line's end. -/
import Derived.Test.YthnmaaoafogbiaaLex10
namespace Go.Proofs.Ythnmaaoafogbiaa.Lex
set_option linter.unusedSimpArgs false
set_option linter.unusedVariables false
open Go.RowKit Go.Proofs.YthnmaaoafogbiaaW.PrintWords Go.Proofs.YthnmaaoafogbiaaW.PrintLast Go.Proofs.YthnmaaoafogbiaaW.PrintMore PLexAll Go.Proofs.YthnmaaoafogbiaaW.Canon

/-- A line's end, or the text's. -/
def AtEnd (q : List UInt8) : Prop := q = [] ∨ ∃ r, q = 10 :: r
theorem goT_close {q : List UInt8} (hq : AtEnd q) {z z' : TX} (h : closeT z' = closeT z) : goT q z' = goT q z := by
  rcases hq with rfl | ⟨r, rfl⟩
  · show (if (closeT z').bad = true then Sum.inl (closeT z').line else Sum.inr (closeT z')) = (if (closeT z).bad = true then Sum.inl (closeT z).line else Sum.inr (closeT z))
    rw [h]
  · have hb : ∀ x : TX, byteT 10 x = closeT x := fun _ => rfl
    have hn : ∀ x : TX, nextT 10 x = { closeT x with line := (closeT x).line + 1 } := fun _ => rfl
    rw [goT_cons, goT_cons, hb, hb, hn, hn, h]
theorem goT_bad {q : List UInt8} (hq : AtEnd q) {z y : TX} (h : goT q z = .inr y) : (closeT z).bad = false := by
  rcases hq with rfl | ⟨r, rfl⟩
  · have h' : (if (closeT z).bad = true then Sum.inl (closeT z).line else Sum.inr (closeT z)) = Sum.inr y := h
    by_cases hb : (closeT z).bad = true
    · rw [if_pos hb] at h'; cases h'
    · exact Bool.eq_false_iff.mpr hb
  · rw [goT_cons] at h
    by_cases hb : (byteT 10 z).bad = true
    · rw [if_pos hb] at h; cases h
    · exact Bool.eq_false_iff.mpr hb
theorem endT_kind0 {x : TX} (h : x.kind = 0) : endT x = x := by
  unfold endT
  rw [if_neg (by omega), if_neg (by omega)]
theorem endT_end {z : TX} (h : Fine z) : endT (endT z) = endT z := endT_kind0 (endT_fine h).1
theorem closeT_end {z : TX} (h : Fine z) : closeT (endT z) = closeT z := by
  unfold closeT
  rw [endT_end h]
/-- What has the same end. -/
structure Same (z w : TX) : Prop where
  fine : Fine w
  close : closeT w = closeT z
theorem Same.refl {z : TX} (h : Fine z) : Same z z := ⟨h, rfl⟩
theorem end_same {z : TX} (h : Fine z) (hc : (closeT z).bad = false) : Same z (endT z) := ⟨endT_Fine h hc, closeT_end h⟩
theorem blank {c : UInt8} (hc : c.toNat = 32 ∨ c.toNat = 9 ∨ c.toNat = 13) {z w : TX} (hz : (closeT z).bad = false) (h : Same z w) : (byteT c w).bad = false ∧ Same z (nextT c w) ∧ (nextT c w).rem = w.rem := by
  have h10 : ¬ c.toNat = 10 := by omega
  have hn : nextT c w = byteT c w := by rw [nextT, if_neg h10]
  rw [hn, byteT, if_neg h10]
  by_cases hr : w.rem = true
  · rw [if_pos hr]
    exact ⟨h.fine.bad, h, rfl⟩
  · rw [if_neg hr]
    have hp : plainI c.toNat w = endT w := by
      unfold plainI
      rw [if_neg (by omega), if_neg (by omega), if_pos (by omega)]
    have hw : (closeT w).bad = false := by rw [h.close]; exact hz
    rw [hp]
    exact ⟨hw, ⟨endT_Fine h.fine hw, (closeT_end h.fine).trans h.close⟩, (endT_fine h.fine).2.2.2.1⟩
theorem run_blanks {z : TX} (hz : (closeT z).bad = false) : ∀ (l : List UInt8), (∀ c ∈ l, c.toNat = 32 ∨ c.toNat = 9 ∨ c.toNat = 13) → ∀ {w : TX}, Same z w → ∃ w', runT l w = .inr w' ∧ Same z w' ∧ w'.rem = w.rem := by
  intro l
  induction l with
  | nil => intro _ w h; exact ⟨w, rfl, h, rfl⟩
  | cons c l ih =>
    intro hl w h
    obtain ⟨h1, h2, h3⟩ := blank (hl c (by simp)) hz h
    obtain ⟨w', e1, e2, e3⟩ := ih (fun d hd => hl d (by simp [hd])) h2
    refine ⟨w', ?_, e2, e3.trans h3⟩
    rw [runT_cons, if_neg (by rw [h1]; exact Bool.false_ne_true)]
    exact e1
theorem run_rem {w : TX} (hr : w.rem = true) (hb : w.bad = false) : ∀ (l : List UInt8), (∀ c ∈ l, ¬ c.toNat = 10) → runT l w = .inr w := by
  intro l
  induction l with
  | nil => intro _; rfl
  | cons c l ih =>
    intro hl
    have h10 := hl c (by simp)
    have h1 : byteT c w = w := by rw [byteT, if_neg h10, if_pos hr]
    have h2 : nextT c w = w := by rw [nextT, if_neg h10, h1]
    rw [runT_cons, h1, h2, if_neg (by rw [hb]; exact Bool.false_ne_true)]
    exact ih (fun d hd => hl d (by simp [hd]))
/-- A comment. -/
theorem run_note {z : TX} (hf : Fine z) (hz : (closeT z).bad = false) (l : List UInt8) (hl : ∀ c ∈ l, ¬ c.toNat = 10) : ∃ w', runT (32 :: 35 :: l) z = .inr w' ∧ closeT w' = closeT z := by
  obtain ⟨w, e1, e2, e3⟩ := run_blanks hz [32] (by simp) (Same.refl hf)
  have hs : runT (32 :: 35 :: l) z = runT (35 :: l) w := by
    have := runT_append [32] (35 :: l) z
    rw [e1] at this
    exact this
  rw [hs]
  by_cases hr : w.rem = true
  · exact ⟨w, run_rem hr e2.fine.bad _ (fun c hc => by rcases List.mem_cons.mp hc with rfl | hc; decide; exact hl c hc), e2.close⟩
  · have hb : byteT 35 w = { endT w with rem := true } := by
      rw [byteT, if_neg (by decide), if_neg hr]
      unfold plainI
      rw [if_neg (by decide), if_neg (by decide), if_neg (by decide), if_pos (by decide)]
    have hn : nextT 35 w = { endT w with rem := true } := by rw [nextT, if_neg (by decide), hb]
    have hw : (endT w).bad = false := by
      have : (closeT w).bad = false := by rw [e2.close]; exact hz
      exact this
    have hk := (endT_fine e2.fine).1
    refine ⟨{ endT w with rem := true }, ?_, ?_⟩
    · rw [runT_cons, hb, hn, if_neg (show ¬ ({ endT w with rem := true } : TX).bad = true by rw [show ({ endT w with rem := true } : TX).bad = (endT w).bad from rfl, hw]; exact Bool.false_ne_true)]
      exact run_rem (w := { endT w with rem := true }) rfl hw l hl
    · rw [← e2.close]
      have he : endT { endT w with rem := true } = { endT w with rem := true } := endT_kind0 hk
      show ({ endT { endT w with rem := true } with l := shutL (endT { endT w with rem := true }).line (endT { endT w with rem := true }).l, rem := false } : TX) = _
      rw [he]
      rfl
/-- The four pieces. -/
def piece (n : Nat) : List UInt8 := match n with
  | 0 => [32]
  | 1 => [32, 35, 32, 119, 111, 114, 100, 115, 44, 32, 53, 32, 58]
  | 2 => [9, 13]
  | _ => [10]
theorem mv0 (l : List S31) : l.map (mvS 0) = l := by
  have : mvS 0 = id := by
    funext y
    simp [mvS]
  rw [this, List.map_id]
theorem mvT0 (p : List S31) (u : TX) : (mvT p 0 u).l = p ++ u.l := by
  show p ++ u.l.map (mvS 0) = _
  rw [mv0]
theorem goT_line_end {z y : TX} {q : List UInt8} (hf : Fine z) (hq : AtEnd q) (h : goT q z = .inr y) :
    ∃ a b d y', (d = 0 ∨ d = 1) ∧ y.l = a ++ b ∧ goT (10 :: q) z = .inr y' ∧ y'.l = a ++ b.map (mvS d) := by
  have hz := goT_bad hq h
  have hc := closeT_fine hf hz
  have hb : ∀ x : TX, byteT 10 x = closeT x := fun _ => rfl
  have hn : nextT 10 z = cleanT (closeT z).l (z.line + 1) := by
    show ({ closeT z with line := (closeT z).line + 1 } : TX) = _
    rw [hc]; rfl
  have hfirst : goT (10 :: q) z = goT q (cleanT (closeT z).l (z.line + 1)) := by
    rw [goT_cons, hb, hn, if_neg (by rw [hz]; exact Bool.false_ne_true)]
  rw [hfirst]
  have hle : lastEnd (closeT z).l = true := lastEnd_shut (endT z).line (endT z).l
  have hcl : ∀ n, closeT (cleanT (closeT z).l n) = cleanT (closeT z).l n := by
    intro n
    have he : endT (cleanT (closeT z).l n) = cleanT (closeT z).l n := rfl
    show ({ endT (cleanT (closeT z).l n) with l := shutL (endT (cleanT (closeT z).l n)).line (endT (cleanT (closeT z).l n)).l, rem := false } : TX) = _
    rw [he]
    have hs : shutL n (closeT z).l = (closeT z).l := if_pos hle
    show (⟨shutL n (closeT z).l, n, 0, [], false, false, false⟩ : TX) = _
    rw [hs]
    rfl
  rcases hq with rfl | ⟨r, rfl⟩
  · have h' : (if (closeT z).bad = true then Sum.inl (closeT z).line else Sum.inr (closeT z)) = Sum.inr y := h
    rw [if_neg (by rw [hz]; exact Bool.false_ne_true)] at h'
    obtain rfl : closeT z = y := Sum.inr.inj h'
    refine ⟨(closeT z).l, [], 0, cleanT (closeT z).l (z.line + 1), .inl rfl, by simp, ?_, by simp [cleanT]⟩
    show (if (closeT (cleanT (closeT z).l (z.line + 1))).bad = true then Sum.inl (closeT (cleanT (closeT z).l (z.line + 1))).line else Sum.inr (closeT (cleanT (closeT z).l (z.line + 1)))) = _
    rw [hcl, if_neg (show ¬ (cleanT (closeT z).l (z.line + 1)).bad = true from Bool.false_ne_true)]
  · rw [goT_cons, hb, hn, if_neg (by rw [hz]; exact Bool.false_ne_true)] at h
    have e1 : cleanT (closeT z).l (z.line + 1) = mvT (closeT z).l 0 (cleanT [] (z.line + 1)) := by simp [mvT, cleanT]
    have e2 : nextT 10 (cleanT (closeT z).l (z.line + 1)) = mvT (closeT z).l 1 (cleanT [] (z.line + 1)) := by
      show ({ closeT (cleanT (closeT z).l (z.line + 1)) with line := (closeT (cleanT (closeT z).l (z.line + 1))).line + 1 } : TX) = _
      rw [hcl]
      simp [mvT, cleanT]
    rw [e1, goT_mv _ _ hle] at h
    cases hu : goT r (cleanT [] (z.line + 1)) with
    | inl n => rw [hu] at h; cases h
    | inr u =>
      rw [hu] at h
      obtain rfl : mvT (closeT z).l 0 u = y := Sum.inr.inj h
      refine ⟨(closeT z).l, u.l, 1, mvT (closeT z).l 1 u, .inr rfl, mvT0 _ _, ?_, rfl⟩
      rw [goT_cons, hb, hcl, e2, if_neg (show ¬ (cleanT (closeT z).l (z.line + 1)).bad = true from Bool.false_ne_true)]
      have := goT_mv (closeT z).l 1 hle r (cleanT [] (z.line + 1))
      rw [hu] at this
      exact this
/-- What P3.2 says of a piece at a line's end. -/
theorem blanks_goT (p q : List UInt8) (hq : AtEnd q) (n : Nat) (y : TX) (h : goT (p ++ q) x0 = .inr y) :
    ∃ a b d y', (d = 0 ∨ d = 1) ∧ y.l = a ++ b ∧ goT (p ++ (piece n ++ q)) x0 = .inr y' ∧ y'.l = a ++ b.map (mvS d) := by
  rw [goT_append] at h ⊢
  cases hr : runT p x0 with
  | inl k => rw [hr] at h; cases h
  | inr z =>
    rw [hr] at h
    simp only at h ⊢
    obtain ⟨hf, _⟩ := run_fine p Fine.x0 hr
    have hz := goT_bad hq h
    have same : ∀ l w, runT l z = .inr w → closeT w = closeT z → ∃ a b d y', (d = 0 ∨ d = 1) ∧ y.l = a ++ b ∧ goT (l ++ q) z = .inr y' ∧ y'.l = a ++ b.map (mvS d) := by
      intro l w hl hw
      refine ⟨y.l, [], 0, y, .inl rfl, by simp, ?_, by simp⟩
      rw [goT_append, hl]
      simp only
      rw [goT_close hq hw, h]
    match n with
    | 0 =>
      obtain ⟨w, e1, e2, _⟩ := run_blanks hz [32] (by simp) (Same.refl hf)
      exact same [32] w e1 e2.close
    | 1 =>
      obtain ⟨w, e1, e2⟩ := run_note hf hz [32, 119, 111, 114, 100, 115, 44, 32, 53, 32, 58] (by decide)
      exact same _ w e1 e2
    | 2 =>
      obtain ⟨w, e1, e2, _⟩ := run_blanks hz [9, 13] (by simp) (Same.refl hf)
      exact same [9, 13] w e1 e2.close
    | n + 3 => exact goT_line_end hf hq h
theorem rd_app_m (a b : List S31) (i d : Int) (h0 : 0 ≤ i) (h : i < a.length + b.length) (hd : d = 0 ∨ d = 1) : ∃ t, 0 ≤ t ∧ t ≤ 1 ∧ rd_T31 (a ++ b.map (mvS d)) i = mvS t (rd_T31 (a ++ b) i) := by
  by_cases ha : i < a.length
  · refine ⟨0, by omega, by omega, ?_⟩
    rw [rd_app_l _ _ _ h0 ha, rd_app_l _ _ _ h0 ha]
    simp [mvS]
  · refine ⟨d, by omega, by omega, ?_⟩
    rw [rd_app_r _ _ _ _ (by omega) h]
    have := rd_app_r a b i 0 (by omega) h
    rw [mv0] at this
    rw [this]
    simp [mvS]
theorem blanks_all (p q : List UInt8) (hl : p.length + q.length ≤ 2000) (hq : AtEnd q) (n : Nat) (l : List S31) (h : allT (bs (p ++ q)) = .inr l) :
    ∃ m, allT (bs (p ++ (piece n ++ q))) = .inr m ∧ m.length = l.length ∧ okL l 2001 ∧ ∀ i : Int, 0 ≤ i → i < l.length → ∃ t, 0 ≤ t ∧ t ≤ 1 ∧ rd_T31 m i = mvS t (rd_T31 l i) := by
  have hlen : (p ++ q).length ≤ 8192 := by rw [List.length_append]; omega
  have hpl : (piece n).length ≤ 13 := by unfold piece; split <;> decide
  rw [allT_bs _ hlen] at h
  cases hg : goT (p ++ q) x0 with
  | inl k => rw [hg] at h; cases h
  | inr y =>
    rw [hg] at h
    obtain rfl : y.l = l := Sum.inr.inj h
    obtain ⟨a, b, d, y', hd, e1, e2, e3⟩ := blanks_goT p q hq n y hg
    have hok := goT_ok (p ++ q) okL0 (by decide) hg
    have h5 : x0.line = 1 := rfl
    refine ⟨y'.l, allT_inr (by simp only [List.length_append]; omega) e2, ?_, okL_mono hok (by rw [List.length_append]; omega), ?_⟩
    · rw [e3, e1]; simp
    · intro i h0 h1
      rw [e1, List.length_append] at h1
      rw [e3, e1]
      exact rd_app_m a b i d h0 (by omega) hd
end Go.Proofs.Ythnmaaoafogbiaa.Lex
