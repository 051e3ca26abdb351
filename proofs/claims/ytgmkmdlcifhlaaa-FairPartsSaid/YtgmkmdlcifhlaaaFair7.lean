/- Walk: the document's example of chapter 25. -/
import Derived.Test.YtgmkmdlcifhlaaaFair6
namespace Go.Proofs.Ytgmkmdlcifhlaaa.Fair
open Go.RowKit Go.Proofs.YtgmkmdlcifhlaaaW.PrintWords Go.Proofs.YtgmkmdlcifhlaaaW.PrintLast Go.Proofs.YtgmkmdlcifhlaaaW.PrintMore PFairAll Go.Proofs.YtgmkmdlcifhlaaaW.Canon

theorem C_lit (W : World) (l : List Int) (hl : l.length ≤ 1000) (cs : Array Value) (hcs : cs = (nums .i64 l).toArray) : Kd.C (Kd.int .i64) (W.alloc (.cells cs 3)) (some ⟨W.heap.size, 0, none⟩) l.length l := by
  subst hcs
  have h := own_lit W 0 3 .i64 l (by omega) (by omega)
  have h2 : Kd.R (Kd.int .i64) 3 (W.alloc (.cells (nums .i64 l).toArray 3)) 0 (fun _ => True) (.slice (some ⟨W.heap.size, 0, none⟩) l.length l.length) l := Kd.R_of_own h (fun _ _ => trivial)
  exact (Kd.R_reads' h2).2.2

theorem leanL_len (work steps lean : Int) (ds : List Int) : (leanL work steps lean ds).length = (mx 0 (mn steps 1048576)).toNat := by simp [leanL]

theorem win_a : Aside0 (winP 2 [0, 1, 0, 1] = 2) := ⟨by decide⟩
theorem win_b : Aside0 (winP 2 [0, 0] = 0) := ⟨by decide⟩

theorem awake_calls (w : World) : Calls Try.prog 8 #[] w fun e w' => e = .returned (.bool true) ∧ Below w.heap.size w w' := by
  go_enter Try.func8, Try.ntmps8
  go_wp2_with (fail)
  refine (Window_calls 2 _ _ [0, 1, 0, 1] _ (C_lit _ _ (by decide) _ rfl) (by decide) (by decide)).mono ?_
  rintro e w1 ⟨rfl, hb1⟩
  rw [win_a.out]
  have HB1 := Aside0.mk (below_step (below_alloc (Below.refl _ _) _) hb1)
  clear hb1
  go_wp2_with (fail)
  refine (Window_calls 2 _ _ [0, 0] _ (C_lit _ _ (by decide) _ rfl) (by decide) (by decide)).mono ?_
  rintro e w2 ⟨rfl, hb2⟩
  rw [win_b.out]
  have HB2 := Aside0.mk (below_step (below_alloc HB1.out _) hb2)
  clear hb2 HB1
  go_wp2_with (fail)
  refine (Round_calls 2 3 none 0 [] _ (Kd.C_nil _ _) (by decide)).mono ?_
  rintro e w3 ⟨v, rfl, ho, hb3⟩
  have HB3 := Aside0.mk (below_step HB2.out hb3)
  obtain ⟨A, c, rfl⟩ := Kd.R_slice ho
  rw [leanL_len]
  clear hb3 HB2 ho
  go_wp2
  go_ret
  exact ⟨rfl, HB3.out⟩
end Go.Proofs.Ytgmkmdlcifhlaaa.Fair
