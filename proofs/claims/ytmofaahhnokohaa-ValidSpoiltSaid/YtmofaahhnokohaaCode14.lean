/- A program that is handed in, opened: what it reads as. -/
import Derived.Test.YtmofaahhnokohaaCode13
import Derived.Deep.Slices
import Derived.Lib.SmallJoins
namespace Go.Proofs.Ytmofaahhnokohaa.Code
set_option linter.unusedSimpArgs false
set_option linter.unusedVariables false
open Go.RowKit Go.ChangeShapes Go.WideShapes Go.Proofs.YtmofaahhnokohaaW.PrintWords Go.Proofs.YtmofaahhnokohaaW.PrintLast Go.Proofs.YtmofaahhnokohaaW.PrintMore PCodeAll

section
variable {H : Type} {enc : TypeId × Value → H} {W : World} {spare : Nat → Bool} {held : Bool}
theorem cs_four {cs : List Value} (h : cs.length = 4) : ∃ c0 c1 c2 c3, cs = [c0, c1, c2, c3] := by
  match cs, h with
  | [c0, c1, c2, c3], _ => exact ⟨c0, c1, c2, c3, rfl⟩
theorem cs_one {cs : List Value} (h : cs.length = 1) : ∃ c0, cs = [c0] := by
  match cs, h with
  | [c0], _ => exact ⟨c0, rfl⟩
theorem cells26 : Try.prog.cellsOf 26 = 4 := by kernel_rfl
theorem cells38 : Try.prog.cellsOf 38 = 1 := by kernel_rfl
theorem cells3 : Try.prog.cellsOf 3 = 1 := by kernel_rfl
theorem cells33 : Try.prog.cellsOf 33 = 4 := by kernel_rfl
theorem open_ins {n : Nat} {cs : List Value} {y : DataW H × List MemPlace} (h : DataW.trod enc Try.prog W 0 spare held n 26 cs = some y) : ∃ x : S26, cs = [.int .i64 x.f0, .int .i64 x.f1, .int .i64 x.f2, .int .i64 x.f3] := by
  obtain ⟨y0, y1, y2, y3, m, _, hl, h0, h1, h2, h3⟩ := Joins.trod_struct4 Try.underlying26 h
  rw [cells26] at hl
  obtain ⟨c0, c1, c2, c3, rfl⟩ := cs_four hl
  simp only [cells3, List.drop, List.take] at h0 h1 h2 h3
  obtain ⟨n0, e0, _⟩ := DataW.trod_int Try.underlying3 h0
  obtain ⟨n1, e1, _⟩ := DataW.trod_int Try.underlying3 h1
  obtain ⟨n2, e2, _⟩ := DataW.trod_int Try.underlying3 h2
  obtain ⟨n3, e3, _⟩ := DataW.trod_int Try.underlying3 h3
  injection e0 with e0
  injection e1 with e1
  injection e2 with e2
  injection e3 with e3
  subst e0
  subst e1
  subst e2
  subst e3
  exact ⟨⟨n0, n1, n2, n3⟩, rfl⟩
theorem C_open {α : Type} [Inhabited α] (d : Kd α) (a : Addr) (len : Nat) (hl : len ≤ 9223372036854775807) (h : ∀ i, i < len → ∃ (x : α) (cs : List Value), cs.length = d.sz ∧ d.K W x cs ∧ ∀ j u, cs[j]? = some u → W.cell? (a.add (i * d.sz + j)) = some u) :
    ∃ xs : List α, xs.length = len ∧ d.C W (some a) xs.length xs := by
  obtain ⟨f, hf⟩ := Deep.choose_lt h
  refine ⟨(List.range len).map f, by simp, ?_⟩
  refine ⟨rfl, by simpa using hl, fun _ => ⟨a, rfl, fun j p hj => ?_⟩⟩
  have hjl : j < len := by
    have := (List.getElem?_eq_some_iff.1 hj).1
    simpa using this
  have hp : f j = p := by
    simpa [List.getElem?_map, List.getElem?_range hjl] using hj
  subst hp
  obtain ⟨cs, h1, h2, h3⟩ := hf j hjl
  exact ⟨cs, h1, h2, h3⟩
instance : Inhabited S26 := ⟨z26⟩
theorem cells_at {a : Addr} {i k : Nat} {cs : List Value} (h : W.cells? 0 (a.add (i * k)) k = some cs) : cs.length = k ∧ ∀ j u, cs[j]? = some u → W.cell? (a.add (i * k + j)) = some u := by
  obtain ⟨_, hl, hc⟩ := World.cells?_some h
  refine ⟨hl, fun j u hj => ?_⟩
  have hjl : j < k := by
    have := (List.getElem?_eq_some_iff.1 hj).1
    omega
  rw [← Deep.add_add, hc j hjl, hj]
theorem open_fun {n : Nat} {cs : List Value} {y : DataW H × List MemPlace} (h : DataW.trod enc Try.prog W 0 (fun _ => true) held n 38 cs = some y) :
    ∃ (A : Option Addr) (c : Nat) (f : List S26), cs = [.slice A f.length c] ∧ f.length ≤ c ∧ Kd.C k26 W A f.length f := by
  rcases Deep.open_slice Try.underlying38 h with ⟨rfl, _⟩ | ⟨a, len, cap, m, n, D, Pl, rfl, _, hlc, hcm, hm, _, hel⟩
  · exact ⟨none, 0, [], rfl, Nat.le_refl _, (Kd.R_reads' (c := 0) (Kd.R_nil k26 26 W 0 (fun _ => True))).2.2⟩
  · have hm' : len ≤ m := by rw [hm]; split <;> omega
    unfold maxLen at hcm
    obtain ⟨f, hf, hC⟩ := C_open (W := W) k26 a len (by omega) (fun i hi => by
      obtain ⟨cs', hc, ht⟩ := hel i (by omega)
      rw [cells26] at hc
      obtain ⟨x, rfl⟩ := open_ins ht
      obtain ⟨hcl, hcc⟩ := cells_at hc
      exact ⟨x, _, hcl, k26_mk W x, hcc⟩)
    exact ⟨some a, cap, f, by rw [hf], by omega, hC⟩
theorem open_funs {n : Nat} {cs : List Value} {y : DataW H × List MemPlace} (h : DataW.trod enc Try.prog W 0 (fun _ => true) held n 31 cs = some y) :
    ∃ (A : Option Addr) (c : Nat) (fs : List (List S26)), cs = [.slice A fs.length c] ∧ fs.length ≤ c ∧ Kd.C (Kd.slice 26 k26) W A fs.length fs := by
  rcases Deep.open_slice Try.underlying31 h with ⟨rfl, _⟩ | ⟨a, len, cap, m, n, D, Pl, rfl, _, hlc, hcm, hm, _, hel⟩
  · exact ⟨none, 0, [], rfl, Nat.le_refl _, (Kd.R_reads' (c := 0) (Kd.R_nil (Kd.slice 26 k26) 38 W 0 (fun _ => True))).2.2⟩
  · have hm' : len ≤ m := by rw [hm]; split <;> omega
    unfold maxLen at hcm
    obtain ⟨f, hf, hC⟩ := C_open (W := W) (Kd.slice 26 k26) a len (by omega) (fun i hi => by
      obtain ⟨cs', hc, ht⟩ := hel i (by omega)
      rw [cells38] at hc
      obtain ⟨A, c, f, rfl, hfc, hC⟩ := open_fun ht
      obtain ⟨hcl, hcc⟩ := cells_at hc
      exact ⟨f, _, hcl, ⟨A, c, rfl, hfc, hC⟩, hcc⟩)
    exact ⟨some a, cap, f, by rw [hf], by omega, hC⟩
theorem open_prog {r : Reach} {b0 : Nat} {v : Value} {d : DataW H} {p : List MemPlace} (hv : Value.okWide Try.prog W r b0 33 v) (h : DataW.Trod enc Try.prog W 0 (fun _ => true) held 33 v d p) :
    ∃ (q : PG) (A : Option Addr) (c : Nat), v = q.val A c ∧ q.fs.length ≤ c ∧ q.C W A := by
  obtain ⟨v0, v1, v2, v3, y0, y1, y2, y3, n, rfl, _, _, h0, h1, h2, h3⟩ := Joins.open_agg4 Try.underlying33 (by kernel_rfl) (by kernel_rfl) hv h
  obtain ⟨A, c, fs, e0, hc, hC⟩ := open_funs h0
  obtain ⟨n1, e1, _⟩ := DataW.trod_int Try.underlying3 h1
  obtain ⟨n2, e2, _⟩ := DataW.trod_int Try.underlying3 h2
  obtain ⟨n3, e3, _⟩ := DataW.trod_int Try.underlying3 h3
  injection e0 with e0
  injection e1 with e1
  injection e2 with e2
  injection e3 with e3
  subst e0
  subst e1
  subst e2
  subst e3
  exact ⟨⟨fs, n1, n2, n3⟩, A, c, rfl, hc, hC⟩
theorem open_one {r : Reach} {b0 : Nat} {v : Value} {d : DataW H} {p : List MemPlace} (hv : Value.okWide Try.prog W r b0 26 v) (h : DataW.Trod enc Try.prog W 0 (fun _ => true) held 26 v d p) :
    ∃ x : S26, v = .agg #[.int .i64 x.f0, .int .i64 x.f1, .int .i64 x.f2, .int .i64 x.f3] := by
  obtain ⟨v0, v1, v2, v3, y0, y1, y2, y3, n, rfl, _, _, h0, h1, h2, h3⟩ := Joins.open_agg4 Try.underlying26 (by kernel_rfl) (by kernel_rfl) hv h
  obtain ⟨n0, e0, _⟩ := DataW.trod_int Try.underlying3 h0
  obtain ⟨n1, e1, _⟩ := DataW.trod_int Try.underlying3 h1
  obtain ⟨n2, e2, _⟩ := DataW.trod_int Try.underlying3 h2
  obtain ⟨n3, e3, _⟩ := DataW.trod_int Try.underlying3 h3
  injection e0 with e0
  injection e1 with e1
  injection e2 with e2
  injection e3 with e3
  subst e0
  subst e1
  subst e2
  subst e3
  exact ⟨⟨n0, n1, n2, n3⟩, rfl⟩
end
end Go.Proofs.Ytmofaahhnokohaa.Code
