/-
  More steps of a region that draws its order: an element of a slice.
-/
import Derived.Test.YtmofaahhnokohaaCanon
namespace Go.Proofs.YtmofaahhnokohaaW.Canon
set_option linter.unusedSimpArgs false
set_option linter.unusedVariables false
open Go.RowKit Go.Proofs.YtmofaahhnokohaaW.PrintWords Go.Proofs.YtmofaahhnokohaaW.PrintLast

section
variable {P : Program} {ops : Array Oper} {Q : Exit → Act → World → Prop} {S : World → Prop}
theorem cell_heap {w w' : World} (h : w'.heap = w.heap) (p : Addr) : w'.cell? p = w.cell? p := by
  unfold World.cell?
  rw [h]
theorem run_index_slice {o : Oper} {a : Act} (w : World) (ty : TypeId) (x y : Operand) (ho : o.op = .indexAddr ty x y) (ad : Addr) (len c : Nat) (hx : a.eval x = .slice (some ad) len c) (i : Int) (hy : a.eval y = .int .i64 i)
    (h0 : 0 ≤ i) (h1 : i < len) (hu : P.underlying ty = some (.slice (P.elem ty))) (sz : Nat) (hz : ∀ w, (sizeOf (P.elem ty)).run P w = .ok sz w) (n : Nat) (hn : i.toNat * sz = n) :
    (execOp a.eval o).run P w = .ok (.value (.pointer (some (ad.add n)))) w := by
  have h : (Instr.indexAt ty (.slice (some ad) len c) (.int .i64 i)).run P w = .ok (.pointer (some (ad.add n))) w := by
    rw [run_indexAt_slice (h := hu), if_pos ⟨h0, h1⟩, hz, ← hn]
    rfl
  unfold execOp
  simp [ho, hx, hy, Sem.run_bind, h]
/-- The address of a slice's element. -/
theorem c_index {k : Nat} {rest : List (Nat × Nat)} {a : Act} {w : World} {o : Oper} {N : Option Tmp} (ho : opAt ops.toList k = some o) (hN : o.dst = N) (hw : Region.wanted o (yielded ops a.tmps) = true)
    (ty : TypeId) (x y : Operand) (hop : o.op = .indexAddr ty x y) (ad : Addr) (len c : Nat) (hx : a.eval x = .slice (some ad) len c) (i : Int) (hy : a.eval y = .int .i64 i)
    (h0 : 0 ≤ i) (h1 : i < len) (hu : P.underlying ty = some (.slice (P.elem ty))) (sz : Nat) (hz : ∀ w, (sizeOf (P.elem ty)).run P w = .ok sz w) (n : Nat) (hn : i.toNat * sz = n)
    {a' : Act} (ha : a.put N (.pointer (some (ad.add n))) = a') (h : stepsC P ops Q S rest a' w) : stepsC P ops Q S ((k, 1) :: rest) a w :=
  c_pure ho hN hw (fun w => run_index_slice w ty x y hop ad len c hx i hy h0 h1 hu sz hz n hn) ha h
end
end Go.Proofs.YtmofaahhnokohaaW.Canon
