/- Walks and helpers for the laws of valid. -/
import Derived.Test.YtmofaahhnokohaaCode23
import Derived.Test.YtmofaahhnokohaaCode21
import Derived.Test.YtmofaahhnokohaaCode9
namespace Go.Proofs.Ytmofaahhnokohaa.Code
set_option linter.unusedSimpArgs false
set_option linter.unusedVariables false
open Go.RowKit Go.Proofs.YtmofaahhnokohaaW.PrintWords Go.Proofs.YtmofaahhnokohaaW.PrintLast Go.Proofs.YtmofaahhnokohaaW.PrintMore PCodeAll Go.Proofs.YtmofaahhnokohaaW.CanonE
attribute [local go_sem] max2_mx min2_mn max_two min_two max_three min_three max_four min_four

/-- A literal of instructions. -/
theorem lit26_R (W : World) (base : Nat) (ok : Nat → Prop) (xs : List S26) (cs : List Value) (hb : base ≤ W.heap.size) (hl : xs.length ≤ 100) (hr : Reps (fun x c => c = [.int .i64 x.f0, .int .i64 x.f1, .int .i64 x.f2, .int .i64 x.f3]) 4 xs cs) (hok : ok W.heap.size) :
    RF (W.alloc (.cells cs.toArray 26)) base ok (.slice (some ⟨W.heap.size, 0, none⟩) xs.length xs.length) xs := by
  have hsz : cs.length = xs.length * 4 := hr.1
  refine ⟨fun k hk => ?_, cs, ?_, hr.imp_ (fun x c h => by rw [h]; exact k26_mkM _ _ _ x)⟩
  · have : W.heap.size = k := by simpa [Value.ownBlock] using hk
    rw [← this]
    exact hok
  · have h := World.ownsRow_lit (base := base) (e := 26) (size := 4) W cs.toArray xs.length hb (by simp only [maxLen]; omega) (by simpa using hsz)
    have h' : (W.alloc (.cells cs.toArray 26)).ownsRow base 26 4 (.slice (some ⟨W.heap.size, 0, none⟩) xs.length xs.length) xs.length cs := by simpa using h
    exact h'
theorem reps_1 (x : S26) : Reps (fun (x : S26) c => c = [.int .i64 x.f0, .int .i64 x.f1, .int .i64 x.f2, .int .i64 x.f3]) 4 [x] [.int .i64 x.f0, .int .i64 x.f1, .int .i64 x.f2, .int .i64 x.f3] := by
  refine ⟨rfl, fun j p hj => ?_⟩
  have hj0 : j = 0 := by
    have := (List.getElem?_eq_some_iff.1 hj).1
    simp at this
    omega
  subst hj0
  have : x = p := by simpa using hj
  subst this
  rfl
theorem reps_2 (x y : S26) : Reps (fun (x : S26) c => c = [.int .i64 x.f0, .int .i64 x.f1, .int .i64 x.f2, .int .i64 x.f3]) 4 [x, y] [.int .i64 x.f0, .int .i64 x.f1, .int .i64 x.f2, .int .i64 x.f3, .int .i64 y.f0, .int .i64 y.f1, .int .i64 y.f2, .int .i64 y.f3] := by
  refine ⟨rfl, fun j p hj => ?_⟩
  have hj0 : j = 0 ∨ j = 1 := by
    have := (List.getElem?_eq_some_iff.1 hj).1
    simp at this
    omega
  rcases hj0 with rfl | rfl
  · have : x = p := by simpa using hj
    subst this
    rfl
  · have : y = p := by simpa using hj
    subst this
    rfl
theorem lit_row {w : World} {g : Nat} {A : Option Addr} {c : Nat} {f : List S26} (h : w.heap[g]? = some (.cells #[.slice A f.length c] 38 (0, 0))) (hc : f.length ≤ c) (hC : Kd.C k26 w A f.length f) :
    Kd.C (Kd.slice 26 k26) w (some ⟨g, 0, none⟩) 1 [f] := by
  refine ⟨rfl, by omega, fun _ => ⟨⟨g, 0, none⟩, rfl, fun j p hj => ?_⟩⟩
  have hj0 : j = 0 := by
    have := (List.getElem?_eq_some_iff.1 hj).1
    simp at this
    omega
  subst hj0
  have hp : f = p := by simpa using hj
  subst hp
  refine ⟨[.slice A f.length c], rfl, ⟨A, c, rfl, hc, hC⟩, fun i u hi => ?_⟩
  have hi0 : i = 0 := by
    have := (List.getElem?_eq_some_iff.1 hi).1
    simp at this
    omega
  subst hi0
  have hu : Value.slice A f.length c = u := by simpa using hi
  subst hu
  exact cell_of_row w g 0 _ 38 (0, 0) h
theorem vok : vErr ⟨[[⟨15, 0, 0, 0⟩]], 0, 0, 1⟩ = 0 := by decide
theorem vno : vErr ⟨[], 0, 0, 1⟩ = 5 := by decide
theorem vawake_calls (w : World) : Calls Try.prog 23 #[] w fun e w' => e = .returned (.bool true) ∧ Below w.heap.size w w' := by
  have h1 := lit26_R w w.heap.size (fun _ => True) [⟨15, 0, 0, 0⟩] _ (Nat.le_refl _) (by simp) (reps_1 ⟨15, 0, 0, 0⟩) trivial
  have h2 := Kd.R_reads' (Kd.R_alloc h1 (.cells #[.slice (some ⟨w.heap.size, 0, none⟩) 1 1] 38))
  have hb := heap_alloc_new (w.alloc (.cells #[.int .i64 15, .int .i64 0, .int .i64 0, .int .i64 0] 26)) (.cells #[.slice (some ⟨w.heap.size, 0, none⟩) 1 1] 38)
  rw [World.size_alloc] at hb
  have HC := Aside0.mk (lit_row (f := [⟨15, 0, 0, 0⟩]) hb h2.2.1 h2.2.2)
  clear h1 h2 hb
  go_enter Try.func23, Try.ntmps23
  go_wp2_with (fail)
  refine (Check_calls ⟨[[⟨15, 0, 0, 0⟩]], 0, 0, 1⟩ (some ⟨w.heap.size + 1, 0, none⟩) 1 _ HC.out).mono ?_
  rintro e w1 ⟨rfl, hb1⟩
  rw [vok]
  have HB1 := Aside0.mk (below_step (below_alloc (below_alloc (Below.refl w.heap.size w) (.cells #[.int .i64 15, .int .i64 0, .int .i64 0, .int .i64 0] 26)) (.cells #[.slice (some ⟨w.heap.size, 0, none⟩) 1 1] 38)) hb1)
  clear hb1 HC
  go_wp2_with (fail)
  refine (Check_calls ⟨[], 0, 0, 1⟩ none 0 _ (p0_C _)).mono ?_
  rintro e w2 ⟨rfl, hb2⟩
  rw [vno]
  have HB2 := Aside0.mk (below_step HB1.out hb2)
  clear hb2
  go_wp2_with (fail)
  go_ret
  exact ⟨rfl, HB2.out⟩
theorem prog_few {c : Bool} {p : PG} (h : ProgOk c p) : FewB p.fs := ⟨by have := h.len; omega, fun f hf => by have := (h.funs f hf).len; omega⟩
theorem prog_noCan {p : PG} (h : ProgOk false p) : p.fs.any canB = false := by
  rw [List.any_eq_false]
  intro f hf
  rw [Bool.not_eq_true, canB, List.any_eq_false]
  intro x hx hc
  have := ((h.funs f hf).ins x hx).can (by simpa [isCan] using hc)
  cases this
/-- A function stored into a program's row. -/
theorem put_fun {W : World} {base g n cap i : Nat} {ok okp : Nat → Prop} {fs : List (List S26)} {v : Value} {f : List S26} (h : RP W base ok (.slice (some ⟨g, 0, none⟩) n cap) fs) (hi : i < n) (hv : RF W base okp v f) (hokp : ∀ k, okp k → ok k ∧ k ≠ g) :
    RP (W.setCell ⟨g, i, none⟩ v) base ok (.slice (some ⟨g, 0, none⟩) n cap) (fs.set i f) := by
  obtain ⟨hn, _, hC⟩ := Kd.R_reads' h
  obtain ⟨ad, A0, c0, he, hcell, _, _⟩ := at_L2 hC (i : Int) (by omega) (by omega)
  injection he with he
  subst he
  rw [Int.toNat_natCast, add_plain] at hcell
  have hs := Kd.R_seg (c := [.slice A0 (rd_L2 fs (i : Int)).length c0]) (seg := [v]) (j := 0) (x' := f) (okp := okp) h (i : Int) (by omega) (by omega) rfl (fun j u hj => by
    have hj0 : j = 0 := by
      have := (List.getElem?_eq_some_iff.1 hj).1
      simp at this
      omega
    subst hj0
    have hu : Value.slice A0 (rd_L2 fs (i : Int)).length c0 = u := by simpa using hj
    subst hu
    rw [Int.toNat_natCast, show i * (Kd.slice 26 k26).sz + 0 = i by show i * 1 + 0 = i; omega]
    exact hcell) (by show 0 + 1 ≤ 1; omega) ⟨v, rfl, hv⟩ hokp
  have e : W.setCells g (((i : Int)).toNat * (Kd.slice 26 k26).sz + 0) [v] = W.setCell ⟨g, i, none⟩ v := by
    rw [Int.toNat_natCast, show i * (Kd.slice 26 k26).sz + 0 = i by show i * 1 + 0 = i; omega]
    rfl
  rw [e, Int.toNat_natCast] at hs
  exact hs.1
end Go.Proofs.Ytmofaahhnokohaa.Code
