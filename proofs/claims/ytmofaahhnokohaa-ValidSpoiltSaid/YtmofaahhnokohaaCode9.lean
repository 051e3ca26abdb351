/- What a program by numbers has: no error; its bytes' number; what is read of it. -/
import Derived.Test.YtmofaahhnokohaaCode8
namespace Go.Proofs.Ytmofaahhnokohaa.Code
set_option linter.unusedSimpArgs false
set_option linter.unusedVariables false
open Go.RowKit Go.Proofs.YtmofaahhnokohaaW.PrintWords Go.Proofs.YtmofaahhnokohaaW.PrintLast Go.Proofs.YtmofaahhnokohaaW.PrintMore PCodeAll Go.Proofs.YtmofaahhnokohaaW.CanonE
attribute [local go_sem] max2_mx min2_mn max_two min_two max_three min_three max_four min_four

theorem prog_err {c : Bool} {p : PG} (h : ProgOk c p) : errOf p = 0 := by
  refine err_none (by have := h.len; omega) ?_ ?_ ?_
  · rw [List.any_eq_false]
    intro f hf
    have := (h.funs f hf).len
    simp only [longF, decide_eq_true_eq]
    omega
  · have h1 := h.fu
    have h2 := h.de
    have h3 := h.fl
    exact decide_eq_true (by omega)
  · rw [List.all_eq_true]
    intro f hf
    rw [List.all_eq_true]
    intro x hx
    exact ((h.funs f hf).ins x hx).ok
/-- How many instructions have a number of four bytes. -/
def consts (f : List S26) : Nat := (f.filter (fun x => x.f0 == 1)).length
theorem insB_size (x : S26) : (insB x).length = 4 + (if x.f0 = 1 then 2 else 0) := by
  unfold insB
  split
  · rw [List.length_append, bigB_len]; rfl
  · rfl
theorem insBs_size (f : List S26) : (f.flatMap insB).length = 4 * f.length + 2 * consts f := by
  induction f with
  | nil => rfl
  | cons x r ih =>
    rw [List.flatMap_cons, List.length_append, ih, insB_size, consts, consts, List.filter_cons, List.length_cons]
    by_cases h : x.f0 = 1
    · rw [if_pos h, if_pos (beq_iff_eq.mpr h), List.length_cons]; omega
    · rw [if_neg h, if_neg (by simpa using h)]; omega
theorem funB_size (f : List S26) : (funB f).length = 1 + 4 * f.length + 2 * consts f := by
  rw [funB, List.length_cons, insBs_size]; omega
theorem hdr_size (p : PG) : (hdr p).length = 8 := by simp [hdr, bigB_len]
theorem putB_size (p : PG) : (putB p).length = 8 + (p.fs.flatMap funB).length := by rw [putB, List.length_append, hdr_size]
theorem consts_step (f : List S26) (k : Nat) (h : k < f.length) : consts (f.take (k + 1)) = consts (f.take k) + (if (f[k]'h).f0 = 1 then 1 else 0) := by
  rw [← List.take_append_getElem h, consts, consts, List.filter_append, List.length_append]
  by_cases h1 : (f[k]'h).f0 = 1
  · rw [if_pos h1]; simp [h1]
  · rw [if_neg h1]; simp [h1]
theorem consts_le (f : List S26) (k : Nat) : consts (f.take k) ≤ k := by
  have h1 := List.length_filter_le (fun x : S26 => x.f0 == 1) (f.take k)
  have h2 : (f.take k).length ≤ k := by rw [List.length_take]; omega
  exact Nat.le_trans h1 h2
theorem consts_len (f : List S26) : consts f ≤ f.length := List.length_filter_le _ _
theorem funs_size (fs : List (List S26)) (h : ∀ f, f ∈ fs → f.length ≤ 11) (k : Nat) : ((fs.take k).flatMap funB).length ≤ 67 * k := by
  induction k with
  | zero => simp
  | succ n ih =>
    by_cases hn : n < fs.length
    · rw [fm_step funB fs n hn, List.length_append, funB_size]
      have h1 := h _ (List.getElem_mem hn)
      have h2 := consts_len (fs[n]'hn)
      omega
    · rw [List.take_of_length_le (by omega)] at ih ⊢
      omega
/-- A program's functions, read. -/
theorem RP.reads {w : World} {base : Nat} {ok : Nat → Prop} {U : Value} {fs : List (List S26)} (h : RP w base ok U fs) : ∃ A c, U = .slice A fs.length c ∧ fs.length ≤ c ∧ (Kd.slice 26 k26).C w A fs.length fs := Kd.R_reads h
end Go.Proofs.Ytmofaahhnokohaa.Code
