/- Plain laws: the lines of tokens; two texts. -/
import Derived.Test.YthnmaaoafogbiaaLex9
namespace Go.Proofs.Ythnmaaoafogbiaa.Lex
set_option linter.unusedSimpArgs false
set_option linter.unusedVariables false
open Go.RowKit Go.Proofs.YthnmaaoafogbiaaW.PrintWords Go.Proofs.YthnmaaoafogbiaaW.PrintLast Go.Proofs.YthnmaaoafogbiaaW.PrintMore PLexAll Go.Proofs.YthnmaaoafogbiaaW.Canon

/-- The lines of tokens are from 1 to n. -/
def okL (l : List S31) (n : Int) : Prop := ∀ y ∈ l, 1 ≤ y.f3 ∧ y.f3 ≤ n
theorem okL_mono {l : List S31} {n m : Int} (h : okL l n) (hm : n ≤ m) : okL l m := fun y hy => ⟨(h y hy).1, by have := (h y hy).2; omega⟩
theorem okL_snoc {l : List S31} {n : Int} {y : S31} (h : okL l n) (h1 : 1 ≤ y.f3) (h2 : y.f3 ≤ n) : okL (l ++ [y]) n := by
  intro z hz
  rcases List.mem_append.mp hz with hz | hz
  · exact h z hz
  · rw [List.mem_singleton] at hz
    subst hz
    exact ⟨h1, h2⟩
theorem endT_ok {x : TX} (h : okL x.l x.line) (h1 : 1 ≤ x.line) : okL (endT x).l x.line := by
  unfold endT
  split
  · exact okL_snoc h h1 (Int.le_refl _)
  split
  · exact okL_snoc h h1 (Int.le_refl _)
  · exact h
theorem closeT_ok {x : TX} (h : okL x.l x.line) (h1 : 1 ≤ x.line) : okL (closeT x).l x.line := by
  have h2 := endT_ok h h1
  have e := (endT_facts x).1
  show okL (shutL (endT x).line (endT x).l) x.line
  unfold shutL
  split
  · exact h2
  · exact okL_snoc h2 (by simp only; omega) (by simp only; omega)
theorem moreT_ok {k : Int} {c : UInt8} {x : TX} (h : okL x.l x.line) : okL (moreT k c x).l x.line := by
  rw [(moreT_facts k c x).2.1]; exact h
theorem plainI_ok {r : Int} {x : TX} (h : okL x.l x.line) (h1 : 1 ≤ x.line) : okL (plainI r x).l x.line := by
  have h2 := endT_ok h h1
  have e := (endT_facts x).1
  unfold plainI
  split
  · exact moreT_ok h
  split
  · exact moreT_ok h
  split
  · exact h2
  split
  · exact h2
  split
  · exact h2
  split
  · exact okL_snoc h2 (by simp only; omega) (by simp only; omega)
  · exact h
theorem byteT_ok {c : UInt8} {x : TX} (h : okL x.l x.line) (h1 : 1 ≤ x.line) : okL (byteT c x).l x.line := by
  unfold byteT
  split
  · exact closeT_ok h h1
  split
  · exact h
  · exact plainI_ok h h1
theorem nextT_line (c : UInt8) (x : TX) : x.line ≤ (nextT c x).line ∧ (nextT c x).line ≤ x.line + 1 := by
  have e := byteT_line c x
  unfold nextT
  split
  · exact ⟨by simp only; omega, by simp only; omega⟩
  · omega
theorem nextT_ok {c : UInt8} {x : TX} (h : okL x.l x.line) (h1 : 1 ≤ x.line) : okL (nextT c x).l (nextT c x).line := by
  have h2 := byteT_ok (c := c) h h1
  have h3 := (nextT_line c x).1
  have e : (nextT c x).l = (byteT c x).l := by unfold nextT; split <;> rfl
  rw [e]
  exact okL_mono h2 h3
theorem goT_ok (l : List UInt8) : ∀ {x z : TX}, okL x.l x.line → 1 ≤ x.line → goT l x = .inr z → okL z.l (x.line + l.length) := by
  induction l with
  | nil =>
    intro x z h h1 hz
    have hz' : (if (closeT x).bad = true then Sum.inl (closeT x).line else Sum.inr (closeT x)) = Sum.inr z := hz
    split at hz'
    · cases hz'
    · obtain rfl : closeT x = z := Sum.inr.inj hz'
      exact okL_mono (closeT_ok h h1) (by simp)
  | cons c l ih =>
    intro x z h h1 hz
    rw [goT_cons] at hz
    split at hz
    · cases hz
    · have h3 := nextT_line c x
      refine okL_mono (ih (nextT_ok h h1) (by omega) hz) ?_
      rw [List.length_cons]
      omega
theorem goT_line (l : List UInt8) : ∀ {x : TX} {n : Int}, goT l x = .inl n → x.line ≤ n ∧ n ≤ x.line + l.length := by
  induction l with
  | nil =>
    intro x n hz
    have hz' : (if (closeT x).bad = true then Sum.inl (closeT x).line else Sum.inr (closeT x)) = Sum.inl n := hz
    have e := (closeT_facts x).1
    split at hz'
    · obtain rfl : (closeT x).line = n := Sum.inl.inj hz'
      rw [e]
      simp
    · cases hz'
  | cons c l ih =>
    intro x n hz
    rw [goT_cons] at hz
    have e := byteT_line c x
    split at hz
    · obtain rfl : (byteT c x).line = n := Sum.inl.inj hz
      rw [List.length_cons]
      omega
    · have h3 := nextT_line c x
      have h4 := ih hz
      rw [List.length_cons]
      omega
theorem okL0 : okL x0.l x0.line := fun y hy => by cases hy
theorem allT_inl {l : List UInt8} (hl : l.length ≤ 8192) {n : Int} (h : goT l x0 = .inl n) : allT (bs l) = .inl (n, 3) := by rw [allT_bs l hl, h]
theorem allT_inr {l : List UInt8} (hl : l.length ≤ 8192) {y : TX} (h : goT l x0 = .inr y) : allT (bs l) = .inr y.l := by rw [allT_bs l hl, h]
/-- What lex.All says of two texts and of both. -/
theorem parts_all (S T : List UInt8) (hS : S.length ≤ 1500) (hT : T.length ≤ 1500) :
    (∃ n m, allT (bs S) = .inl (n, 3) ∧ allT (bs (S ++ 10 :: T)) = .inl (m, 3)) ∨
    (∃ a n, allT (bs S) = .inr a ∧ allT (bs T) = .inl (n, 3) ∧ allT (bs (S ++ 10 :: T)) = .inl (n + (1 + nls S), 3) ∧ 1 ≤ n ∧ n ≤ 1501) ∨
    (∃ a b, allT (bs S) = .inr a ∧ allT (bs T) = .inr b ∧ allT (bs (S ++ 10 :: T)) = .inr (a ++ b.map (mvS (1 + nls S))) ∧ okL a 1501 ∧ okL b 1501) := by
  have hb : (S ++ 10 :: T).length ≤ 8192 := by simp; omega
  obtain ⟨h1, h2⟩ := parts_goT S T
  cases hs : goT S x0 with
  | inl n =>
    obtain ⟨m, hm⟩ := h1 n hs
    exact .inl ⟨n, m, allT_inl (by omega) hs, allT_inl hb hm⟩
  | inr y =>
    have h3 := h2 y hs
    cases ht : goT T x0 with
    | inl n =>
      rw [ht] at h3
      have h4 := goT_line T ht
      have h5 : x0.line = 1 := rfl
      exact .inr (.inl ⟨y.l, n, allT_inr (by omega) hs, allT_inl (by omega) ht, allT_inl hb h3, by omega, by omega⟩)
    | inr z =>
      rw [ht] at h3
      have h4 := goT_ok T okL0 (by decide) ht
      have h6 := goT_ok S okL0 (by decide) hs
      have h5 : x0.line = 1 := rfl
      exact .inr (.inr ⟨y.l, z.l, allT_inr (by omega) hs, allT_inr (by omega) ht, allT_inr hb h3, okL_mono h6 (by omega), okL_mono h4 (by omega)⟩)
theorem rd_app_l (a b : List S31) (i : Int) (h0 : 0 ≤ i) (h : i < a.length) : rd_T31 (a ++ b) i = rd_T31 a i := by
  simp only [rd_T31, List.getD_eq_getElem?_getD]
  rw [List.getElem?_append_left (by omega)]
theorem rd_app_r (a b : List S31) (i : Int) (d : Int) (h0 : (a.length : Int) ≤ i) (h : i < a.length + b.length) : rd_T31 (a ++ b.map (mvS d)) i = mvS d (rd_T31 b (i - a.length)) := by
  simp only [rd_T31, List.getD_eq_getElem?_getD]
  rw [List.getElem?_append_right (by omega), List.getElem?_map, show (i - (a.length : Int)).toNat = i.toNat - a.length by omega, List.getElem?_eq_getElem (by omega)]
  rfl
theorem rd_mem (b : List S31) (i : Int) (h0 : 0 ≤ i) (h : i < b.length) : rd_T31 b i ∈ b := by
  simp only [rd_T31, List.getD_eq_getElem?_getD]
  rw [List.getElem?_eq_getElem (by omega)]
  exact List.getElem_mem _
theorem bs_bl (s : ByteArray) : bs (bl s) = s := by
  cases s
  simp [bs, bl]
end Go.Proofs.Ythnmaaoafogbiaa.Lex
