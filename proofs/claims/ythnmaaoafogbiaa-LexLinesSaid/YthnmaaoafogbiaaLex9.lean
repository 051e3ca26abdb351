/- Plain laws: a text behind a text. -/
import Derived.Test.YthnmaaoafogbiaaLex7
namespace Go.Proofs.Ythnmaaoafogbiaa.Lex
set_option linter.unusedSimpArgs false
set_option linter.unusedVariables false
open Go.RowKit Go.Proofs.YthnmaaoafogbiaaW.PrintWords Go.Proofs.YthnmaaoafogbiaaW.PrintLast Go.Proofs.YthnmaaoafogbiaaW.PrintMore PLexAll Go.Proofs.YthnmaaoafogbiaaW.Canon

theorem lastEnd_eq (l : List S31) : lastEnd l = (match l.getLast? with | none => true | some y => (y.f0 == 4)) := by
  cases hl : l.getLast? with
  | none =>
    have h : l = [] := List.getLast?_eq_none_iff.mp hl
    subst h
    rfl
  | some y =>
    have hne : l ≠ [] := by rintro rfl; simp at hl
    have h2 : l[l.length - 1]? = some y := by rw [← List.getLast?_eq_getElem?]; exact hl
    have h3 : l.isEmpty = false := by cases l <;> simp_all
    have h4 : rd_T31 l ((l.length : Int) - 1) = y := by
      have hp : 0 < l.length := List.length_pos_iff.mpr hne
      have e : (((l.length : Int) - 1)).toNat = l.length - 1 := by omega
      simp only [rd_T31, e, List.getD_eq_getElem?_getD, h2, Option.getD_some]
    rw [lastEnd, h3, h4]
    simp
def mvS (d : Int) (y : S31) : S31 := { y with f3 := y.f3 + d }
/-- A text under way behind tokens p, d lines on. -/
def mvT (p : List S31) (d : Int) (x : TX) : TX := { x with l := p ++ x.l.map (mvS d), line := x.line + d }
theorem lastEnd_mv (p : List S31) (d : Int) (hp : lastEnd p = true) (l : List S31) : lastEnd (p ++ l.map (mvS d)) = lastEnd l := by
  rw [lastEnd_eq, lastEnd_eq l, List.getLast?_append, List.getLast?_map]
  rw [lastEnd_eq] at hp
  cases hl : l.getLast? with
  | none => simpa using hp
  | some y => rfl
theorem shutL_mv (p : List S31) (d n : Int) (hp : lastEnd p = true) (l : List S31) : shutL (n + d) (p ++ l.map (mvS d)) = p ++ (shutL n l).map (mvS d) := by
  rw [shutL, shutL, lastEnd_mv p d hp]
  split
  · rfl
  · simp [mvS]
theorem endT_mv (p : List S31) (d : Int) (x : TX) : endT (mvT p d x) = mvT p d (endT x) := by
  unfold endT
  by_cases h1 : x.kind = 1
  · rw [if_pos (show (mvT p d x).kind = 1 from h1), if_pos h1]
    simp [mvT, mvS]
  · rw [if_neg (show ¬ (mvT p d x).kind = 1 from h1), if_neg h1]
    by_cases h2 : x.kind = 2
    · rw [if_pos (show (mvT p d x).kind = 2 from h2), if_pos h2]
      simp [mvT, mvS]
    · rw [if_neg (show ¬ (mvT p d x).kind = 2 from h2), if_neg h2]
theorem closeT_mv (p : List S31) (d : Int) (hp : lastEnd p = true) (x : TX) : closeT (mvT p d x) = mvT p d (closeT x) := by
  rw [closeT, endT_mv]
  show ({ mvT p d (endT x) with l := shutL ((endT x).line + d) (p ++ (endT x).l.map (mvS d)), rem := false } : TX) = _
  rw [shutL_mv p d _ hp]
  rfl
theorem moreT_mv (p : List S31) (d k : Int) (c : UInt8) (x : TX) : moreT k c (mvT p d x) = mvT p d (moreT k c x) := by
  unfold moreT
  by_cases h : x.kind = 0
  · rw [if_pos h, if_pos (show (mvT p d x).kind = 0 from h)]; rfl
  · rw [if_neg h, if_neg (show ¬ (mvT p d x).kind = 0 from h)]; rfl
theorem plainI_mv (p : List S31) (d r : Int) (x : TX) : plainI r (mvT p d x) = mvT p d (plainI r x) := by
  unfold plainI
  split
  · exact moreT_mv p d 1 _ x
  split
  · exact moreT_mv p d 2 _ x
  split
  · exact endT_mv p d x
  split
  · rw [endT_mv]; rfl
  split
  · rw [endT_mv]; rfl
  split
  · rw [endT_mv]; simp [mvT, mvS]
  · rfl
theorem byteT_mv (p : List S31) (d : Int) (hp : lastEnd p = true) (c : UInt8) (x : TX) : byteT c (mvT p d x) = mvT p d (byteT c x) := by
  unfold byteT
  split
  · exact closeT_mv p d hp x
  · by_cases hr : x.rem = true
    · rw [if_pos (show (mvT p d x).rem = true from hr), if_pos hr]
    · rw [if_neg (show ¬ (mvT p d x).rem = true from hr), if_neg hr]
      exact plainI_mv p d _ x
theorem nextT_mv (p : List S31) (d : Int) (hp : lastEnd p = true) (c : UInt8) (x : TX) : nextT c (mvT p d x) = mvT p d (nextT c x) := by
  unfold nextT
  rw [byteT_mv p d hp]
  split
  · show ({ mvT p d (byteT c x) with line := ((byteT c x).line + d) + 1 } : TX) = { mvT p d (byteT c x) with line := ((byteT c x).line + 1) + d }
    rw [show ((byteT c x).line + d) + 1 = ((byteT c x).line + 1) + d by omega]
  · rfl
theorem goT_cons (c : UInt8) (l : List UInt8) (x : TX) : goT (c :: l) x = if (byteT c x).bad = true then .inl (byteT c x).line else goT l (nextT c x) := rfl
theorem runT_cons (c : UInt8) (l : List UInt8) (x : TX) : runT (c :: l) x = if (byteT c x).bad = true then .inl (byteT c x).line else runT l (nextT c x) := rfl
theorem goT_mv (p : List S31) (d : Int) (hp : lastEnd p = true) (t : List UInt8) : ∀ x, goT t (mvT p d x) = (match goT t x with | .inl n => .inl (n + d) | .inr y => .inr (mvT p d y)) := by
  induction t with
  | nil =>
    intro x
    show (if (closeT (mvT p d x)).bad = true then Sum.inl (closeT (mvT p d x)).line else Sum.inr (closeT (mvT p d x))) = (match (if (closeT x).bad = true then Sum.inl (closeT x).line else Sum.inr (closeT x)) with | .inl n => .inl (n + d) | .inr y => .inr (mvT p d y))
    rw [closeT_mv p d hp]
    by_cases h : (closeT x).bad = true
    · rw [if_pos h, if_pos (show (mvT p d (closeT x)).bad = true from h)]; rfl
    · rw [if_neg h, if_neg (show ¬ (mvT p d (closeT x)).bad = true from h)]
  | cons c t ih =>
    intro x
    rw [goT_cons, goT_cons, byteT_mv p d hp, nextT_mv p d hp, ih]
    by_cases h : (byteT c x).bad = true
    · rw [if_pos h, if_pos (show (mvT p d (byteT c x)).bad = true from h)]; rfl
    · rw [if_neg h, if_neg (show ¬ (mvT p d (byteT c x)).bad = true from h)]
/-- What holds of every text under way. -/
structure Fine (x : TX) : Prop where
  bad : x.bad = false
  kind : x.kind = 0 ∨ x.kind = 1 ∨ x.kind = 2
  none : x.kind = 0 → x.s = [] ∧ x.less = false
theorem Fine.x0 : Fine x0 := ⟨rfl, .inl rfl, fun _ => ⟨rfl, rfl⟩⟩
theorem endT_fine {x : TX} (h : Fine x) : (endT x).kind = 0 ∧ (endT x).s = [] ∧ (endT x).less = false ∧ (endT x).rem = x.rem ∧ (endT x).line = x.line := by
  unfold endT
  rcases h.kind with h0 | h1 | h2
  · rw [if_neg (by omega), if_neg (by omega)]
    exact ⟨h0, (h.none h0).1, (h.none h0).2, rfl, rfl⟩
  · rw [if_pos h1]; exact ⟨rfl, rfl, rfl, rfl, rfl⟩
  · rw [if_neg (by omega), if_pos h2]; exact ⟨rfl, rfl, rfl, rfl, rfl⟩
theorem closeT_fine {x : TX} (h : Fine x) (hb : (closeT x).bad = false) : closeT x = cleanT (closeT x).l x.line := by
  obtain ⟨e1, e2, e3, _, e5⟩ := endT_fine h
  have hb' : (endT x).bad = false := hb
  show (⟨(closeT x).l, (endT x).line, (endT x).kind, (endT x).s, (endT x).less, false, (endT x).bad⟩ : TX) = _
  rw [e1, e2, e3, e5, hb']
  rfl
theorem endT_Fine {x : TX} (h : Fine x) (hb : (endT x).bad = false) : Fine (endT x) :=
  ⟨hb, .inl (endT_fine h).1, fun _ => ⟨(endT_fine h).2.1, (endT_fine h).2.2.1⟩⟩
theorem moreT_fine {k : Int} {c : UInt8} {x : TX} (h : Fine x) (hk : k = 1 ∨ k = 2) (hb : (moreT k c x).bad = false) : Fine (moreT k c x) := by
  by_cases h0 : x.kind = 0
  · have e : moreT k c x = { x with kind := k, s := x.s ++ [c] } := if_pos h0
    rw [e] at hb ⊢
    exact ⟨hb, .inr hk, fun (hz : k = 0) => by omega⟩
  · have e : moreT k c x = { x with bad := x.bad || !(x.kind == k), s := x.s ++ [c] } := if_neg h0
    rw [e] at hb ⊢
    exact ⟨hb, h.kind, fun (hz : x.kind = 0) => absurd hz h0⟩
theorem plainI_fine {r : Int} {x : TX} (h : Fine x) (hb : (plainI r x).bad = false) : Fine (plainI r x) := by
  obtain ⟨e1, e2, e3, _, e5⟩ := endT_fine h
  unfold plainI at hb ⊢
  split at hb
  · rename_i h1; rw [if_pos h1]; exact moreT_fine h (.inl rfl) hb
  rename_i h1; rw [if_neg h1]
  split at hb
  · rename_i h1; rw [if_pos h1]; exact moreT_fine h (.inr rfl) hb
  rename_i h1; rw [if_neg h1]
  split at hb
  · rename_i h1; rw [if_pos h1]; exact endT_Fine h hb
  rename_i h1; rw [if_neg h1]
  split at hb
  · rename_i h1; rw [if_pos h1]; exact ⟨hb, .inl e1, fun _ => ⟨e2, e3⟩⟩
  rename_i h1; rw [if_neg h1]
  split at hb
  · rename_i h1; rw [if_pos h1]; exact ⟨hb, .inr (.inr rfl), fun (hz : (2 : Int) = 0) => by omega⟩
  rename_i h1; rw [if_neg h1]
  split at hb
  · rename_i h1; rw [if_pos h1]; exact ⟨hb, .inl e1, fun _ => ⟨e2, e3⟩⟩
  · cases hb
theorem byteT_fine {c : UInt8} {x : TX} (h : Fine x) (hb : (byteT c x).bad = false) : Fine (byteT c x) := by
  obtain ⟨e1, e2, e3, _, e5⟩ := endT_fine h
  unfold byteT at hb ⊢
  split at hb
  · rename_i h1; rw [if_pos h1]; exact ⟨hb, .inl e1, fun _ => ⟨e2, e3⟩⟩
  rename_i h1; rw [if_neg h1]
  split at hb
  · rename_i h1; rw [if_pos h1]; exact h
  · rename_i h1; rw [if_neg h1]; exact plainI_fine h hb
theorem nextT_fine {c : UInt8} {x : TX} (h : Fine x) (hb : (byteT c x).bad = false) : Fine (nextT c x) := by
  have h1 := byteT_fine h hb
  unfold nextT
  split
  · exact ⟨h1.bad, h1.kind, h1.none⟩
  · exact h1
theorem byteT_line (c : UInt8) (x : TX) : (byteT c x).line = x.line := by
  unfold byteT
  split
  · exact (closeT_facts x).1
  · split
    · rfl
    · exact (plainI_facts _ x).1
def nls (l : List UInt8) : Int := (l.filter (fun c => c.toNat == 10)).length
theorem run_fine (l : List UInt8) : ∀ {x y : TX}, Fine x → runT l x = .inr y → Fine y ∧ y.line = x.line + nls l := by
  induction l with
  | nil =>
    intro x y hx h
    obtain rfl : x = y := Sum.inr.inj h
    exact ⟨hx, by simp [nls]⟩
  | cons c l ih =>
    intro x y hx h
    rw [runT_cons] at h
    by_cases hb : (byteT c x).bad = true
    · rw [if_pos hb] at h; cases h
    · rw [if_neg hb] at h
      obtain ⟨h1, h2⟩ := ih (nextT_fine hx (Bool.eq_false_iff.mpr hb)) h
      refine ⟨h1, ?_⟩
      rw [h2]
      have e := byteT_line c x
      by_cases h10 : c.toNat = 10
      · rw [nextT, if_pos h10]
        simp only [nls, List.filter_cons, h10, beq_self_eq_true, if_true, List.length_cons]
        omega
      · rw [nextT, if_neg h10]
        simp only [nls, List.filter_cons, beq_eq_false_iff_ne.mpr h10, Bool.false_eq_true, if_false]
        omega
theorem lastEnd_shut (n : Int) (l : List S31) : lastEnd (shutL n l) = true := by
  unfold shutL
  split
  · assumption
  · rw [lastEnd_eq]; simp
theorem goT_run (l : List UInt8) (x : TX) : goT l x = (match runT l x with | .inl n => .inl n | .inr y => if (closeT y).bad = true then .inl (closeT y).line else .inr (closeT y)) := by
  have h := goT_append l [] x
  rw [List.append_nil] at h
  rw [h]
  rfl
/-- What P3.1 says of two texts. -/
theorem parts_goT (s t : List UInt8) :
    (∀ n, goT s x0 = .inl n → ∃ m, goT (s ++ 10 :: t) x0 = .inl m) ∧
    (∀ y, goT s x0 = .inr y → goT (s ++ 10 :: t) x0 = (match goT t x0 with | .inl n => .inl (n + (1 + nls s)) | .inr z => .inr (mvT y.l (1 + nls s) z))) := by
  rw [goT_append, goT_run s]
  cases hr : runT s x0 with
  | inl k => exact ⟨fun n _ => ⟨k, rfl⟩, fun y h => by cases h⟩
  | inr x =>
    obtain ⟨hx, hl⟩ := run_fine s Fine.x0 hr
    have hb : byteT 10 x = closeT x := rfl
    have hn : nextT 10 x = { closeT x with line := (closeT x).line + 1 } := rfl
    simp only [goT_cons, hb]
    by_cases hbad : (closeT x).bad = true
    · rw [if_pos hbad, if_pos hbad]
      exact ⟨fun n _ => ⟨_, rfl⟩, fun y h => by cases h⟩
    · rw [if_neg hbad, if_neg hbad]
      refine ⟨fun n h => (by cases h), fun y h => ?_⟩
      obtain rfl : closeT x = y := Sum.inr.inj h
      have hc := closeT_fine hx (Bool.eq_false_iff.mpr hbad)
      have e : nextT 10 x = mvT (closeT x).l (1 + nls s) x0 := by
        rw [hn, hc, hl]
        simp [mvT, x0, cleanT, Lex.x0]
        omega
      rw [e]
      exact goT_mv (closeT x).l (1 + nls s) (lastEnd_shut _ _) t x0
theorem nls_snoc (l : List UInt8) (c : UInt8) : nls (l ++ [c]) = nls l + (if c.toNat = 10 then 1 else 0) := by
  simp only [nls, List.filter_append, List.length_append]
  by_cases h : c.toNat = 10
  · simp [h]
  · simp [h]
theorem nls_bound (l : List UInt8) : 0 ≤ nls l ∧ nls l ≤ l.length := by
  have := List.length_filter_le (fun c : UInt8 => c.toNat == 10) l
  simp only [nls]; omega
end Go.Proofs.Ythnmaaoafogbiaa.Lex
