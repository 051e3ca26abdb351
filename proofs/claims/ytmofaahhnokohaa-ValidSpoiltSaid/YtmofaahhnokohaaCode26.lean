/- Plain law: what valid.Check says of a program by numbers, whole and spoilt. -/
import Derived.Test.YtmofaahhnokohaaCode24
import Derived.Test.YtmofaahhnokohaaCode25
namespace Go.Proofs.Ytmofaahhnokohaa.Code
set_option linter.unusedSimpArgs false
set_option linter.unusedVariables false
open Go.RowKit Go.Proofs.YtmofaahhnokohaaW.PrintWords Go.Proofs.YtmofaahhnokohaaW.PrintLast Go.Proofs.YtmofaahhnokohaaW.PrintMore PCodeAll Go.Proofs.YtmofaahhnokohaaW.CanonE
theorem bad_no {nf : Nat} {fu : Int} {f : List S26} {k : Nat} (h : ∀ x, x ∈ f → lookB k nf fu f.length x = true) : badL nf fu f k = false := by
  rw [badL, List.any_eq_false]
  intro x hx
  rw [h x hx]
  simp
theorem look_of {a b : Int} {P : Prop} [Decidable P] (h : a = b → P) : (a != b || decide P) = true := by
  by_cases he : a = b
  · rw [decide_eq_true (h he), Bool.or_true]
  · rw [bne_iff_ne.mpr he, Bool.true_or]
theorem looks_ok {c : Bool} {nf : Nat} {fu : Int} {f : List S26} (h : ∀ x, x ∈ f → XOk c x nf fu f.length) : looksTo nf fu f 5 = true := by
  have b0 : badL nf fu f 0 = false := bad_no (fun x hx => look_of (fun he => (h x hx).jump he))
  have b1 : badL nf fu f 1 = false := bad_no (fun x hx => look_of (fun he => (h x hx).zero he))
  have b2 : badL nf fu f 2 = false := bad_no (fun x hx => look_of (fun he => (h x hx).fork he))
  have b3 : badL nf fu f 3 = false := bad_no (fun x hx => look_of (fun he => (h x hx).set he))
  have b4 : badL nf fu f 4 = false := bad_no (fun x hx => look_of (fun he => (h x hx).get he))
  simp only [looksTo, b0, b1, b2, b3, b4]
  rfl
theorem ends_at {f : List S26} {n : Nat} {x : S26} (h : f.length = n + 1) (hx : f[n]? = some x) : endsB f = (x.f0 == 7 || x.f0 == 15) := by
  rw [endsB, dif_pos (by omega)]
  have e : f[f.length - 1]'(by omega) = x := by
    have h2 : f[n]? = some (f[n]'(by omega)) := List.getElem?_eq_getElem (by omega)
    rw [h2] at hx
    rw [← Option.some.inj hx]
    congr 1
    omega
  rw [e]
theorem ends_ok {g : List S26} {r : Int} : endsB (g ++ [⟨15, r, 0, 0⟩]) = true := by
  rw [ends_at (n := g.length) (x := ⟨15, r, 0, 0⟩) (by simp) (by simp)]
  rfl
theorem prog_verr {c : Bool} {p : PG} (h : ProgOk c p) : vErr p = 0 := by
  refine verr_ok (prog_err h) (by have := h.len; omega) (List.all_eq_true.mpr fun f hf => ?_)
  have hF := h.funs f hf
  refine chk_yes ?_ (looks_ok hF.ins)
  obtain ⟨g, r, rfl⟩ := hF.last
  exact ends_ok
/-- One function of a program by numbers is another. -/
theorem set_err {c : Bool} {p : PG} (h : ProgOk c p) {i : Nat} {f' : List S26} (hl : f'.length ≤ 11) (hs : ∀ x, x ∈ f' → shape x = true) : errOf ⟨p.fs.set i f', p.fu, p.de, p.fl⟩ = 0 := by
  have hm : ∀ f, f ∈ p.fs.set i f' → f.length ≤ 11 ∧ ∀ x, x ∈ f → shape x = true := by
    intro f hf
    rcases List.mem_or_eq_of_mem_set hf with h1 | h1
    · exact ⟨(h.funs f h1).len.2, fun x hx => ((h.funs f h1).ins x hx).ok⟩
    · rw [h1]; exact ⟨hl, hs⟩
  refine err_none (by show ¬ 12 < (p.fs.set i f').length; rw [List.length_set]; have := h.len; omega) ?_ ?_ ?_
  · rw [List.any_eq_false]
    intro f hf
    have := (hm f hf).1
    simp only [longF, decide_eq_true_eq]
    omega
  · have h1 := h.fu
    have h2 := h.de
    have h3 := h.fl
    exact decide_eq_true (by show 0 ≤ p.fu ∧ p.fu ≤ 16 ∧ 0 ≤ p.de ∧ p.de ≤ 5 ∧ 1 ≤ p.fl ∧ p.fl ≤ 500; omega)
  · rw [List.all_eq_true]
    intro f hf
    rw [List.all_eq_true]
    exact (hm f hf).2
theorem set_mem {f : List S26} {k : Nat} {x : S26} (hk : k < f.length) : x ∈ f.set k x := List.mem_iff_getElem.mpr ⟨k, by rw [List.length_set]; exact hk, by simp⟩
theorem set_verr {c : Bool} {p : PG} (h : ProgOk c p) {i : Nat} {f' : List S26} (hi : i < p.fs.length) (hl : f'.length ≤ 11) (hs : ∀ x, x ∈ f' → shape x = true) (hc : chkF p.fs.length p.fu f' = false) :
    vErr ⟨p.fs.set i f', p.fu, p.de, p.fl⟩ = 5 := by
  refine verr_bad (set_err h hl hs) (by show (p.fs.set i f').length ≠ 0; rw [List.length_set]; omega) ?_
  show (p.fs.set i f').all (chkF (p.fs.set i f').length p.fu) = false
  rw [List.length_set, List.all_eq_false]
  exact ⟨f', List.mem_iff_getElem.mpr ⟨i, by rw [List.length_set]; exact hi, by simp⟩, by rw [hc]; exact Bool.false_ne_true⟩
/-- One instruction of one function is another, which its kinds let be. -/
theorem ins_verr {c : Bool} {p : PG} (h : ProgOk c p) {i k : Nat} {f : List S26} {x : S26} (hf : p.fs[i]? = some f) (hk : k < f.length) (hs : shape x = true) (hc : chkF p.fs.length p.fu (f.set k x) = false) :
    vErr ⟨p.fs.set i (f.set k x), p.fu, p.de, p.fl⟩ = 5 := by
  have hi : i < p.fs.length := (List.getElem?_eq_some_iff.1 hf).1
  have hF := h.funs f (List.mem_of_getElem? hf)
  refine set_verr h hi (by rw [List.length_set]; exact hF.len.2) (fun y hy => ?_) hc
  rcases List.mem_or_eq_of_mem_set hy with h1 | h1
  · exact (hF.ins y h1).ok
  · rw [h1]; exact hs
theorem bad_set {nf : Nat} {fu : Int} {f : List S26} {k l : Nat} {x : S26} (hk : k < f.length) (hl : l < 5) (h : lookB l nf fu f.length x = false) : chkF nf fu (f.set k x) = false := by
  refine chk_no_looks (looks_no _ _ _ l hl ?_)
  rw [badL, List.any_eq_true]
  exact ⟨x, set_mem hk, by rw [List.length_set, h]; rfl⟩
theorem look_no {a b : Int} {P : Prop} [Decidable P] (ha : a = b) (h : ¬ P) : (a != b || decide P) = false := by
  rw [decide_eq_false h, Bool.or_false, ha]
  exact bne_self_eq_false _
theorem shape_yield : shape ⟨14, 0, 0, 0⟩ = true := by decide
section
variable {p : PG} {i : Nat} {f : List S26}
theorem spoilt0 (h : ProgOk true p) (hf : p.fs[i]? = some f) {n : Nat} (hn : f.length = n + 1) : vErr ⟨p.fs.set i (f.set n ⟨14, 0, 0, 0⟩), p.fu, p.de, p.fl⟩ = 5 := by
  refine ins_verr h hf (by omega) shape_yield (chk_no_ends ?_)
  rw [ends_at (n := n) (x := ⟨14, 0, 0, 0⟩) (by rw [List.length_set]; exact hn) (List.getElem?_set_self (by omega))]
  rfl
theorem flen (h : ProgOk true p) (hf : p.fs[i]? = some f) : 2 ≤ f.length ∧ f.length ≤ 11 := (h.funs f (List.mem_of_getElem? hf)).len
theorem spoilt1 (h : ProgOk true p) (hf : p.fs[i]? = some f) : vErr ⟨p.fs.set i (f.set 0 ⟨7, f.length, 0, 0⟩), p.fu, p.de, p.fl⟩ = 5 := by
  have hl := flen h hf
  refine ins_verr h hf (by omega) (by simp [shape, okOp, kinds, fits, most]; omega) (bad_set (l := 0) (by omega) (by omega) (by show ((7 : Int) != 7 || decide ((f.length : Int) < (f.length : Int))) = false; exact look_no rfl (by omega)))
theorem spoilt2 (h : ProgOk true p) (hf : p.fs[i]? = some f) : vErr ⟨p.fs.set i (f.set 0 ⟨8, 0, f.length, 0⟩), p.fu, p.de, p.fl⟩ = 5 := by
  have hl := flen h hf
  refine ins_verr h hf (by omega) (by simp [shape, okOp, kinds, fits, most]; omega) (bad_set (l := 1) (by omega) (by omega) (by show ((8 : Int) != 8 || decide ((f.length : Int) < (f.length : Int))) = false; exact look_no rfl (by omega)))
theorem spoilt3 (h : ProgOk true p) (hf : p.fs[i]? = some f) : vErr ⟨p.fs.set i (f.set 0 ⟨9, 0, p.fs.length, 0⟩), p.fu, p.de, p.fl⟩ = 5 := by
  have hl := flen h hf
  have hL := h.len
  refine ins_verr h hf (by omega) (by simp [shape, okOp, kinds, fits, most]; omega) (bad_set (l := 2) (by omega) (by omega) (by show ((9 : Int) != 9 || decide ((p.fs.length : Int) < (p.fs.length : Int))) = false; exact look_no rfl (by omega)))
theorem spoilt4 (h : ProgOk true p) (hf : p.fs[i]? = some f) : vErr ⟨p.fs.set i (f.set 0 ⟨11, p.fu, 0, 0⟩), p.fu, p.de, p.fl⟩ = 5 := by
  have hl := flen h hf
  have hL := h.fu
  refine ins_verr h hf (by omega) (by simp [shape, okOp, kinds, fits, most]; omega) (bad_set (l := 3) (by omega) (by omega) (by show ((11 : Int) != 11 || decide (p.fu < p.fu)) = false; exact look_no rfl (by omega)))
theorem spoilt5 (h : ProgOk true p) (hf : p.fs[i]? = some f) {k : Nat} (hk : k < f.length) {a b c : Int} : vErr ⟨p.fs.set i (f.set k ⟨16, a, b, c⟩), p.fu, p.de, p.fl⟩ = 1 := by
  have hi : i < p.fs.length := (List.getElem?_eq_some_iff.1 hf).1
  have hl := flen h hf
  have hm : ∀ g, g ∈ p.fs.set i (f.set k ⟨16, a, b, c⟩) → g.length ≤ 11 := by
    intro g hg
    rcases List.mem_or_eq_of_mem_set hg with h1 | h1
    · exact (h.funs g h1).len.2
    · rw [h1, List.length_set]; exact hl.2
  have he : errOf ⟨p.fs.set i (f.set k ⟨16, a, b, c⟩), p.fu, p.de, p.fl⟩ = 1 := by
    unfold errOf
    rw [if_neg (by show ¬ 12 < (p.fs.set i (f.set k ⟨16, a, b, c⟩)).length; rw [List.length_set]; have := h.len; omega)]
    rw [if_neg (by
      rw [Bool.not_eq_true, List.any_eq_false]
      intro g hg
      have := hm g hg
      simp only [longF, decide_eq_true_eq]
      omega)]
    have h1 := h.fu
    have h2 := h.de
    have h3 := h.fl
    rw [if_neg (by rw [show numsOk ⟨p.fs.set i (f.set k ⟨16, a, b, c⟩), p.fu, p.de, p.fl⟩ = true from decide_eq_true (by show 0 ≤ p.fu ∧ p.fu ≤ 16 ∧ 0 ≤ p.de ∧ p.de ≤ 5 ∧ 1 ≤ p.fl ∧ p.fl ≤ 500; omega)]; decide)]
    rw [if_neg]
    rw [Bool.not_eq_true, List.all_eq_false]
    refine ⟨f.set k ⟨16, a, b, c⟩, List.mem_iff_getElem.mpr ⟨i, by rw [List.length_set]; exact hi, by simp⟩, ?_⟩
    rw [Bool.not_eq_true, List.all_eq_false]
    exact ⟨⟨16, a, b, c⟩, set_mem hk, by simp [shape, okOp]⟩
  rw [verr_err (by rw [he]; decide), he]
theorem spoilt6 (h : ProgOk true p) : vErr ⟨p.fs ++ [[]], p.fu, p.de, p.fl⟩ = 5 := by
  have hm : ∀ f, f ∈ p.fs ++ [[]] → f.length ≤ 11 ∧ ∀ x, x ∈ f → shape x = true := by
    intro f hf
    rcases List.mem_append.mp hf with h1 | h1
    · exact ⟨(h.funs f h1).len.2, fun x hx => ((h.funs f h1).ins x hx).ok⟩
    · rw [List.mem_singleton.mp h1]; exact ⟨by simp, fun x hx => absurd hx List.not_mem_nil⟩
  refine verr_bad (err_none (by show ¬ 12 < (p.fs ++ [[]]).length; rw [List.length_append]; have := h.len; simp only [List.length_cons, List.length_nil]; omega) ?_ ?_ ?_) (by show (p.fs ++ [[]]).length ≠ 0; simp) ?_
  · rw [List.any_eq_false]
    intro f hf
    have := (hm f hf).1
    simp only [longF, decide_eq_true_eq]
    omega
  · have h1 := h.fu
    have h2 := h.de
    have h3 := h.fl
    exact decide_eq_true (by show 0 ≤ p.fu ∧ p.fu ≤ 16 ∧ 0 ≤ p.de ∧ p.de ≤ 5 ∧ 1 ≤ p.fl ∧ p.fl ≤ 500; omega)
  · rw [List.all_eq_true]
    intro f hf
    rw [List.all_eq_true]
    exact (hm f hf).2
  · rw [List.all_eq_false]
    exact ⟨[], by simp, by rw [chk_no_ends (by rfl)]; exact Bool.false_ne_true⟩
theorem spoilt7 (h : ProgOk true p) : vErr ⟨p.fs, p.fu, p.de, 0⟩ = 1 := by
  have he : errOf ⟨p.fs, p.fu, p.de, 0⟩ = 1 := by
    unfold errOf
    rw [if_neg (by show ¬ 12 < p.fs.length; have := h.len; omega)]
    rw [if_neg (by
      rw [Bool.not_eq_true, List.any_eq_false]
      intro g hg
      have := (h.funs g hg).len
      simp only [longF, decide_eq_true_eq]
      omega)]
    rw [if_pos (show numsOk ⟨p.fs, p.fu, p.de, 0⟩ = false from decide_eq_false (by show ¬ (0 ≤ p.fu ∧ p.fu ≤ 16 ∧ 0 ≤ p.de ∧ p.de ≤ 5 ∧ 1 ≤ (0 : Int) ∧ (0 : Int) ≤ 500); omega))]
  rw [verr_err (by rw [he]; decide), he]
end
end Go.Proofs.Ytmofaahhnokohaa.Code
