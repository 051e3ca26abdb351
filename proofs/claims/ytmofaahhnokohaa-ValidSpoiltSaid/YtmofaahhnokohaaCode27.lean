/- Plain law: one instruction of one function of a program is written in place. -/
import Derived.Test.YtmofaahhnokohaaCode26
namespace Go.Proofs.Ytmofaahhnokohaa.Code
set_option linter.unusedSimpArgs false
set_option linter.unusedVariables false
open Go.RowKit Go.Proofs.YtmofaahhnokohaaW.PrintWords Go.Proofs.YtmofaahhnokohaaW.PrintLast Go.Proofs.YtmofaahhnokohaaW.PrintMore PCodeAll Go.Proofs.YtmofaahhnokohaaW.CanonE Go.Proofs.Ytmofaahhnokohaa.CodeS
theorem lend_one {W : World} {base g N c i : Nat} {ok : Nat → Prop} {fs : List (List S26)} {f : List S26} (h : SP W base ok (.slice (some ⟨g, 0, none⟩) N c) fs) (hf : fs[i]? = some f) :
    ∃ (oki : Nat → Prop) (v : Value), W.cell? ⟨g, i, none⟩ = some v ∧ RF W base oki v f ∧ Kd.H (Kd.slice 26 k26) 38 W base ok (.slice (some ⟨g, 0, none⟩) N c) fs (i : Int) oki [v] := by
  obtain ⟨hn, _, _⟩ := Kd.S_reads' h
  have hi : i < fs.length := (List.getElem?_eq_some_iff.1 hf).1
  obtain ⟨oki, cs, hcl, ⟨v, rfl, hR⟩, hcc, _, _, hH⟩ := Kd.S_elem h [] (i : Int) (by omega) (by omega)
  refine ⟨oki, v, ?_, ?_, hH⟩
  · have := hcc 0 v rfl
    rwa [Int.toNat_natCast, show i * (Kd.slice 26 k26).sz + 0 = i by show i * 1 + 0 = i; omega] at this
  · rw [Int.toNat_natCast, List.getD_eq_getElem?_getD, hf] at hR
    exact hR
theorem lend_head {W : World} {base g N c i : Nat} {ok : Nat → Prop} {fs : List (List S26)} {f : List S26} (h : SP W base ok (.slice (some ⟨g, 0, none⟩) N c) fs) (hf : fs[i]? = some f) (hl : 0 < f.length) :
    ∃ gf cf, W.cell? ⟨g, i, none⟩ = some (.slice (some ⟨gf, 0, none⟩) f.length cf) ∧ base ≤ gf ∧ gf < W.heap.size ∧ f.length ≤ cf ∧ ∃ cells, W.heap[gf]? = some (.cells cells 26 (0, 0)) := by
  obtain ⟨oki, v, hv, hR, _⟩ := lend_one h hf
  obtain ⟨gf, cf, rfl, h1, h2, h3⟩ := Kd.R_form hR hl
  exact ⟨gf, cf, hv, h1, h2, (Kd.R_reads' hR).2.1, h3⟩
/-- What is at instruction k, and the program behind a write there. -/
theorem lend_ins {W : World} {base g N c i gf cf m k : Nat} {ok : Nat → Prop} {fs : List (List S26)} {f : List S26} (h : SP W base ok (.slice (some ⟨g, 0, none⟩) N c) fs) (hf : fs[i]? = some f)
    (hc : W.cell? ⟨g, i, none⟩ = some (.slice (some ⟨gf, 0, none⟩) m cf)) (hk : k < f.length) {o : Nat} (ho : k * 4 = o) :
    ∃ x : S26, f[k]? = some x ∧ (W.cell? ⟨gf, o, none⟩ = some (.int .i64 x.f0) ∧ W.cell? ⟨gf, o + 1, none⟩ = some (.int .i64 x.f1) ∧ W.cell? ⟨gf, o + 2, none⟩ = some (.int .i64 x.f2) ∧ W.cell? ⟨gf, o + 3, none⟩ = some (.int .i64 x.f3)) ∧
      (∀ j, W.frozen? ⟨gf, o + j, none⟩ = false) ∧
      (∀ y : S26, SP (W.setCells gf o [.int .i64 y.f0, .int .i64 y.f1, .int .i64 y.f2, .int .i64 y.f3]) base ok (.slice (some ⟨g, 0, none⟩) N c) (fs.set i (f.set k y))) ∧
      SP (W.setCell ⟨gf, o, none⟩ (.int .i64 16)) base ok (.slice (some ⟨g, 0, none⟩) N c) (fs.set i (f.set k ⟨16, x.f1, x.f2, x.f3⟩)) := by
  subst ho
  obtain ⟨oki, v, hv, hR, hH⟩ := lend_one h hf
  rw [hv] at hc
  injection hc with hc
  subst hc
  have hm := (Kd.R_reads' hR).1
  subst hm
  obtain ⟨cs, hcl, hM, hcc, hfr⟩ := Kd.R_elem hR ⟨0, 0, 0, 0⟩ (k : Int) (by omega) (by omega)
  obtain ⟨x, hx⟩ : ∃ x, f[k]? = some x := ⟨_, List.getElem?_eq_getElem hk⟩
  rw [Int.toNat_natCast, List.getD_eq_getElem?_getD, hx] at hM
  obtain rfl := k26_openM hM
  rw [Int.toNat_natCast] at hcc hfr
  have hseg : ∀ (seg : List Value) (y : S26), 0 + seg.length ≤ k26.sz → k26.M W base (fun _ => False) y (([.int .i64 x.f0, .int .i64 x.f1, .int .i64 x.f2, .int .i64 x.f3] : List Value).take 0 ++ seg ++ ([.int .i64 x.f0, .int .i64 x.f1, .int .i64 x.f2, .int .i64 x.f3] : List Value).drop (0 + seg.length)) →
      SP (W.setCells gf (k * 4) seg) base ok (.slice (some ⟨g, 0, none⟩) N c) (fs.set i (f.set k y)) := by
    intro seg y hj hMy
    obtain ⟨h2, h3⟩ := Kd.R_seg hR (k : Int) (by omega) (by omega) (c := [.int .i64 x.f0, .int .i64 x.f1, .int .i64 x.f2, .int .i64 x.f3]) (seg := seg) (j := 0) (x' := y) (okp := fun _ => False) rfl (by rw [Int.toNat_natCast]; exact hcc) hj hMy (fun _ hk => hk.elim)
    rw [Int.toNat_natCast] at h2 h3
    have h4 := Kd.H_back (Kd.H_grown hH h3 (fun q hq => by
      injection hq with hq
      subst hq
      exact hR.1 gf (by simp [Value.ownBlock]))) (x' := f.set k y) (okp := oki) ⟨_, rfl, h2⟩ (fun _ hk => hk)
    rw [Int.toNat_natCast] at h4
    exact h4
  refine ⟨x, hx, ⟨hcc 0 _ rfl, hcc 1 _ rfl, hcc 2 _ rfl, hcc 3 _ rfl⟩, hfr, fun y => hseg _ y (by show 0 + 4 ≤ 4; omega) (k26_mkM _ _ _ y), ?_⟩
  exact hseg [.int .i64 16] ⟨16, x.f1, x.f2, x.f3⟩ (by show 0 + 1 ≤ 4; omega) (k26_mkM _ _ _ ⟨16, x.f1, x.f2, x.f3⟩)
/-- The block that lends is no program's. -/
theorem lend_reads {W : World} {base N c : Nat} {A : Option Addr} {ok : Nat → Prop} {fs : List (List S26)} (h : SP W base ok (.slice A N c) fs) : fs.length = N ∧ Kd.C (Kd.slice 26 k26) W A fs.length fs :=
  ⟨(Kd.S_reads' h).1.symm, (Kd.S_reads' h).2.2⟩
end Go.Proofs.Ytmofaahhnokohaa.Code
