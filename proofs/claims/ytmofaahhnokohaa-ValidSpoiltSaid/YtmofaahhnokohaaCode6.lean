/- Walk: numbers taken one by one. -/
import Derived.Test.YtmofaahhnokohaaCode5
namespace Go.Proofs.Ytmofaahhnokohaa.Code
set_option linter.unusedSimpArgs false
set_option linter.unusedVariables false
open Go.RowKit Go.Proofs.YtmofaahhnokohaaW.PrintWords Go.Proofs.YtmofaahhnokohaaW.PrintLast Go.Proofs.YtmofaahhnokohaaW.PrintMore PCodeAll Go.Proofs.YtmofaahhnokohaaW.CanonE
attribute [local go_sem] max2_mx min2_mn max_two min_two max_three min_three max_four min_four

/-- Numbers in block b: what is left of a row that lies in the world w0. -/
def LAt (w0 w : World) (b : Nat) : Prop := ∃ (A : Option Addr) (c : Nat) (xs : List Int), w.heap[b]? = some (.cells #[.slice A xs.length c] 63 (0, 0)) ∧ xs.length ≤ c ∧ Kd.C (Kd.int .i64) w0 A xs.length xs
/-- Nothing but block b has turned. -/
structure Only (b : Nat) (w w' : World) : Prop where
  os : w'.os = w.os
  tape : w'.tape = w.tape
  output : w'.output = w.output
  size : w.heap.size ≤ w'.heap.size
  keep : ∀ k, k < w.heap.size → k ≠ b → w'.heap[k]? = w.heap[k]?
namespace Only
variable {b : Nat} {w w1 w2 : World}
theorem refl (b : Nat) (w : World) : Only b w w := ⟨rfl, rfl, rfl, Nat.le_refl _, fun _ _ _ => rfl⟩
theorem trans (h : Only b w w1) (h2 : Only b w1 w2) : Only b w w2 := ⟨h2.os.trans h.os, h2.tape.trans h.tape, h2.output.trans h.output, Nat.le_trans h.size h2.size, fun k hk hb => (h2.keep k (Nat.lt_of_lt_of_le hk h.size) hb).trans (h.keep k hk hb)⟩
theorem of (h : Below w.heap.size w w1) : Only b w w1 := ⟨h.os, h.tape, h.output, h.size, fun k hk _ => h.block k hk⟩
theorem setCell (b j : Nat) (w : World) (v : Value) : Only b w (w.setCell ⟨b, j, none⟩ v) := ⟨rfl, rfl, rfl, by simp [World.setCell], fun k _ hb => Below.heap_setCell w ⟨b, j, none⟩ v k hb⟩
theorem below {n : Nat} (h : Only b w w1) (hn : n ≤ b) (hs : n ≤ w.heap.size) : Below n w w1 := ⟨h.os, h.tape, h.output, h.size, fun k hk => h.keep k (by omega) (by omega)⟩
end Only
theorem info3' : Try.prog.info? 3 = some Try.t3 := by kernel_rfl
theorem sl30 : Try.prog.underlying 30 = some (.slice (Try.prog.elem 30)) := by kernel_rfl
theorem sz30 (w : World) : (sizeOf (Try.prog.elem 30)).run Try.prog w = .ok 1 w := by rfl
theorem ix30 (ad : Addr) (len : Nat) (c : Nat) (i : Int) (n : Nat) (W : World) (h0 : 0 ≤ i) (h1 : i < len) (hn : i.toNat = n) :
    (Instr.indexAt 30 (.slice (some ad) len c) (.int .i64 i)).run Try.prog W = .ok (.pointer (some (ad.add n))) W := by
  rw [run_indexAt_slice (h := sl30), if_pos ⟨h0, h1⟩, sz30, ← hn]
  show Result.ok (Value.pointer (some (ad.add (i.toNat * 1)))) W = _
  rw [Nat.mul_one]
theorem tail_run (A : Option Addr) (x : Int) (r : List Int) (c : Nat) (W : World) :
    (Instr.slice 30 (.slice A (r.length + 1) c) (some (.int .i64 1)) none none).run Try.prog W = .ok (.slice (if c = 1 then A else A.map (·.add 1)) r.length (c - 1)) W := by
  have h := cut_from (P := Try.prog) 30 3 .i64 Try.underlying30 info3' 1 (by kernel_rfl) A (r.length + 1) c 1 (by omega) (by omega) W
  rw [h]
  rfl
theorem tail_C {w : World} {A : Option Addr} {x : Int} {r : List Int} {c : Nat} (h : Kd.C (Kd.int .i64) w A (x :: r).length (x :: r)) (hc : (x :: r).length ≤ c) : Kd.C (Kd.int .i64) w (if c = 1 then A else A.map (·.add 1)) r.length r :=
  Kd.C_drop (m := 1) h (by simp) hc
theorem Next_calls (w0 w : World) (b : Nat) (m : Int) (hm : 0 < m) (hm2 : m ≤ 4611686018427387904) (hL : LAt w0 w b) (hB : Below w0.heap.size w0 w) (hb : w0.heap.size ≤ b) :
    Calls Try.prog 30 #[.pointer (some ⟨b, 0, none⟩), .int .i64 m] w fun e w' => ∃ v : Int, e = .returned (.int .i64 v) ∧ 0 ≤ v ∧ v < m ∧ LAt w0 w' b ∧ Only b w w' := by
  have HL := Aside0.mk hL
  obtain ⟨A, c, xs, h1, h2, h3⟩ := hL
  have r0 : w.cell? ⟨b, 0, none⟩ = some (.slice A xs.length c) := cell_of_row w b 0 _ 63 (0, 0) h1
  have q0 : w.frozen? ⟨b, 0, none⟩ = false := blk_frozen h1 0
  have S0 := Aside0.mk h1
  have HC := Aside0.mk h3
  have HB := Aside0.mk hB
  cases xs with
  | nil =>
    clear h1 h2 h3 hB
    go_enter Try.func30, Try.ntmps30
    go_wp2_with (fail)
    go_ret
    exact ⟨0, rfl, by omega, hm, HL.out, Only.refl _ _⟩
  | cons x r =>
    obtain ⟨ad, hA, a0⟩ := Kd.at_int (Kd.C_below h3 hB) 0 (by omega) (by rw [List.length_cons]; omega)
    subst hA
    have hx : rd (x :: r) 0 = x := rfl
    rw [hx, show ad.add (0 : Int).toNat = ad by simp [Addr.add]] at a0
    have hix := fun (W : World) => ix30 ad (r.length + 1) c 0 0 W (by omega) (by omega) rfl
    rw [show ad.add 0 = ad by simp [Addr.add]] at hix
    have hlen : (x :: r).length = r.length + 1 := rfl
    rw [hlen] at r0
    obtain ⟨A', ht, hT⟩ : ∃ A', (∀ W, (Instr.slice 30 (.slice (some ad) (r.length + 1) c) (some (.int .i64 1)) none none).run Try.prog W = .ok (.slice A' r.length (c - 1)) W) ∧ Kd.C (Kd.int .i64) w0 A' r.length r :=
      ⟨_, tail_run (some ad) x r c, tail_C h3 h2⟩
    have T := Aside0.mk hT
    have H2 := Aside0.mk (show r.length ≤ c - 1 by rw [hlen] at h2; omega)
    have t0 : (((r.length : Int) + 1) == 0) = false := beq_eq_false_iff_ne.mpr (by omega)
    clear h1 h2 h3 hB hlen hx hT
    go_enter Try.func30, Try.ntmps30
    go_wp2_with (fail)
    refine (Place_calls x m _ hm hm2).mono ?_
    rintro e w' ⟨rfl, rfl⟩
    have v0 : 0 ≤ x % m := Int.emod_nonneg _ (by omega)
    have v1 : x % m < m := Int.emod_lt_of_pos _ hm
    have S1 := Aside0.mk (blk_put S0.out 0 (.slice A' r.length (c - 1)) (cs' := #[.slice A' r.length (c - 1)]) rfl)
    go_wp2_with (fail)
    go_ret
    exact ⟨_, rfl, v0, v1, ⟨_, _, r, S1.out, H2.out, T.out⟩, Only.setCell b 0 w _⟩
end Go.Proofs.Ytmofaahhnokohaa.Code
