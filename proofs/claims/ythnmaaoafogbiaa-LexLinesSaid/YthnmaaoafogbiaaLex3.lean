/- Walk: (*lex.text).close. -/
import Derived.Test.YthnmaaoafogbiaaLex2
namespace Go.Proofs.Ythnmaaoafogbiaa.Lex
set_option linter.unusedSimpArgs false
set_option linter.unusedVariables false
open Go.RowKit Go.Proofs.YthnmaaoafogbiaaW.PrintWords Go.Proofs.YthnmaaoafogbiaaW.PrintLast Go.Proofs.YthnmaaoafogbiaaW.PrintMore PLexAll Go.Proofs.YthnmaaoafogbiaaW.Canon
attribute [local go_sem] max2_mx min2_mn max_two min_two max_three min_three max_four min_four

def lastEnd (l : List S31) : Bool := l.isEmpty || ((rd_T31 l ((l.length : Int) - 1)).f0 == 4)
def shutL (line : Int) (l : List S31) : List S31 := if lastEnd l = true then l else l ++ [⟨4, bs [], 0, line⟩]
def closeT (x : TX) : TX := { endT x with l := shutL (endT x).line (endT x).l, rem := false }
theorem endT_len (x : TX) : (endT x).l.length ≤ x.l.length + 1 := by
  unfold endT
  split
  · simp
  · split
    · simp
    · omega



set_option maxHeartbeats 1000000 in
theorem close_calls (w : World) (b base : Nat) (x : TX) (hbs : base ≤ w.heap.size) (h : TxAt w b base x) (hl : x.l.length ≤ 90000) (hs : x.s.length ≤ 100000) :
    Calls Try.prog 13 #[.pointer (some ⟨b, 0, none⟩)] w fun e w' => e = .returned (.tuple #[]) ∧ TxAt w' b base (closeT x) ∧ Kb base b w w' := by
  have H := Aside0.mk h
  clear h
  have hl2 := endT_len x
  have ec : Aside0 (closeT x = { endT x with l := shutL (endT x).line (endT x).l, rem := false }) := ⟨rfl⟩
  go_enter Try.func13, Try.ntmps13
  go_wp2_with (fail)
  refine (end_calls w b base x hbs H.out (by omega) hs).mono ?_
  rintro e w1 ⟨rfl, hT, hB⟩
  revert hl2 ec hT
  generalize endT x = y
  intro hl2 ec hT
  obtain ⟨v, hh, hr⟩ := hT
  obtain ⟨A, n, c, rfl⟩ := slice_of_R hr
  obtain ⟨rfl, _, hC⟩ := Kd.R_reads' hr
  have S1 := Aside0.mk hh
  have HR := Aside0.mk hr
  have HB := Aside0.mk hB
  have hlt := blk_lt hh
  have hsw := hB.size
  obtain ⟨⟨c0, c1, c2, c3, c4, c5, c6⟩, f0, f1, f2, f3, f4, f5, f6⟩ := TxAt.reads hh
  clear hh hr hB
  by_cases h0 : y.l.length = 0
  · have he : lastEnd y.l = true := by rw [List.length_eq_zero_iff.mp h0]; rfl
    have E : Aside0 (closeT x = { y with rem := false }) := ⟨by rw [ec.out, shutL, if_pos he]⟩
    clear he
    have e2 : ((y.l.length : Nat) : Int) = 0 := by omega
    clear hC
    go_wp2
    go_end0
    rw [E.out]
    exact ⟨rfl, ⟨_, blk_put S1.out 5 (.bool false) rfl, Kd.R_far HR.out (fun _ h => h) _⟩, HB.out.setB 5 _⟩
  · have hx := at_T31 hC ((y.l.length : Int) - 1) (by omega) (by omega)
    obtain ⟨ad, rfl, hx0, _, _, _⟩ := hx
    clear hC
    have hlen0 : 0 < y.l.length := by omega
    have hw : wrap64 ((y.l.length : Int) - 1) = (y.l.length : Int) - 1 := wrap64_id _ (by omega)
    rw [show ((y.l.length : Int) - 1).toNat = y.l.length - 1 by omega] at hx0
    clear h0
    by_cases hk : (rd_T31 y.l ((y.l.length : Int) - 1)).f0 = 4
    · have he : lastEnd y.l = true := by rw [lastEnd, hk]; simp
      have E : Aside0 (closeT x = { y with rem := false }) := ⟨by rw [ec.out, shutL, if_pos he]⟩
      rw [hk] at hx0
      clear hk he
      go_wp2
      go_end0
      rw [E.out]
      exact ⟨rfl, ⟨_, blk_put S1.out 5 (.bool false) rfl, Kd.R_far HR.out (fun _ h => h) _⟩, HB.out.setB 5 _⟩
    · have he : ¬ lastEnd y.l = true := by
        rw [lastEnd, Bool.or_eq_true, beq_iff_eq]
        rintro (h | h)
        · rw [List.isEmpty_iff] at h; rw [h] at hlen0; exact absurd hlen0 (by decide)
        · exact hk h
      have E : Aside0 (closeT x = { y with l := y.l ++ [⟨4, bs [], 0, y.line⟩], rem := false }) := ⟨by rw [ec.out, shutL, if_neg he]⟩
      have tk : ((rd_T31 y.l ((y.l.length : Int) - 1)).f0 != 4) = true := bne_iff_ne.mpr hk
      clear hk he
      go_wp2
      refine canon [(0,1),(1,1),(2,1),(3,1),(5,1),(6,1),(7,1),(4,2),(8,2),(9,1),(10,0),(11,3),(12,1),(13,1),(14,3)] [11,14] (fun W => W.heap[b]? = some (.cells (y.cells (.slice (some ad) y.l.length c)) 45 (0, 0))) (by kernel_rfl) rfl rfl (by kernel_rfl) (by intro c d v a w h; cases d <;> exact h) ?_
      intro w3 hb3 _
      have S3 := Aside0.mk ((hb3.block _ (blk_lt S1.out)).trans S1.out)
      have HR3 := Aside0.mk (Kd.R_below HR.out hb3)
      have HB3 := Aside0.mk (HB.out.trans (hb3.mono (show base ≤ w1.heap.size by omega)))
      have hl3 := blk_lt S3.out
      have hs3 := HB3.out.size
      clear hb3 HR HB S1 c0 c1 c2 c3 c4 c5 c6 f0 f1 f2 f3 f4 f5 f6 hx0 tk
      repeat (first | (refine c_pure rfl rfl (by rfl) (v := ?_) ?_ (a' := ?_) ?_ ?_; rotate_left; (focus (intro w'; go_simp; with_reducible rfl)); rotate_left; (focus ((try simp only [Act.put, List.setIfInBounds_toArray, List.set_cons_zero, List.set_cons_succ, i64_w, i32_w]); rfl))) | (refine c_off rfl rfl (by rfl) (a' := ?_) ?_ ?_; rotate_left; (focus ((try simp only [Act.put, List.setIfInBounds_toArray, List.set_cons_zero, List.set_cons_succ, i64_w, i32_w]); rfl))))
      (refine c_cell rfl rfl (by rfl) (S3.out) 22 (.tmp 27) rfl (⟨b, 0, none⟩) rfl (.slice (some ad) y.l.length c) (fun w' hS' => cell_of_row w' b 0 _ 45 (0, 0) hS') Try.underlying22 rfl (a' := ?_) ?_ ?_; rotate_left; (focus ((try simp only [Act.put, List.setIfInBounds_toArray, List.set_cons_zero, List.set_cons_succ, i64_w, i32_w]); rfl)))
      (refine c_cell rfl rfl (by rfl) (S3.out) 3 (.tmp 31) rfl (⟨b, 1, none⟩) rfl (.int .i64 y.line) (fun w' hS' => cell_of_row w' b 1 _ 45 (0, 0) hS') Try.underlying3 rfl (a' := ?_) ?_ ?_; rotate_left; (focus ((try simp only [Act.put, List.setIfInBounds_toArray, List.set_cons_zero, List.set_cons_succ, i64_w, i32_w]); rfl)))
      repeat (first | (refine c_pure rfl rfl (by rfl) (v := ?_) ?_ (a' := ?_) ?_ ?_; rotate_left; (focus (intro w'; go_simp; with_reducible rfl)); rotate_left; (focus ((try simp only [Act.put, List.setIfInBounds_toArray, List.set_cons_zero, List.set_cons_succ, i64_w, i32_w]); rfl))) | (refine c_off rfl rfl (by rfl) (a' := ?_) ?_ ?_; rotate_left; (focus ((try simp only [Act.put, List.setIfInBounds_toArray, List.set_cons_zero, List.set_cons_succ, i64_w, i32_w]); rfl))))
      refine c_eff rfl (fun K hK => ?_)
      go_simp
      refine hK _ _ (fun h => (Below.heap_alloc _ _ _ (blk_lt h)).trans h) ?_
      clear hK K
      (refine c_norm (a' := ?_) ?_ ?_; rotate_left; (focus ((try simp only [Act.put, List.setIfInBounds_toArray, List.set_cons_zero, List.set_cons_succ, i64_w, i32_w]); rfl)))
      refine c_last rfl (fun K hK => ?_)
      refine Kd.R_append_step k31 (w0 := w3) base (by rfl) (.tmp 28) (.tmp 34) 22 30 (.agg #[(.int .i64 0), (.string ⟨#[]⟩), (.int .i64 0), (.int .i64 0)]) 40 rfl Try.underlying22 info30 rfl (by decide) (by omega) _ y.l ⟨4, ⟨#[]⟩, 0, y.line⟩ [.int .i64 4, .string ⟨#[]⟩, .int .i64 0, .int .i64 y.line] (fun k => k ≠ b) (fun _ => False) rfl rfl (k31_mkM _ _ _ ⟨4, ⟨#[]⟩, 0, y.line⟩) (fun _ hk => hk.elim) (fun k hk => by omega) HR3.out (Below.refl base w3) (by omega) (by omega) ?_
      intro v1 w4 ho hb4 hg _
      obtain ⟨A1, n2, k1, rfl⟩ := slice_of_R ho
      refine hK _ _ ?_
      clear hK K
      have h4 := blk_grown S3.out hg (fun h => HR3.out.1 b h.symm rfl)
      have S4 := Aside0.mk (blk_put h4 0 (.slice A1 n2 k1) (cs' := ({ y with l := y.l ++ [⟨4, ⟨#[]⟩, 0, y.line⟩] } : TX).cells (.slice A1 n2 k1)) rfl)
      have HR4 := Aside0.mk (Kd.R_far (p := ⟨b, 0, none⟩) ho (fun _ h => h) (.slice A1 n2 k1))
      have HB4 := Aside0.mk ((HB3.out.trans hb4).setB 0 (.slice A1 n2 k1))
      have f4 := blk_frozen h4 0
      have c4 := cell_of_row _ b 0 _ 45 (0, 0) h4
      clear ho hb4 hg h4 S3 HB3 HR3
      (refine c_norm (a' := ?_) ?_ ?_; rotate_left; (focus ((try simp only [Act.put, List.setIfInBounds_toArray, List.set_cons_zero, List.set_cons_succ, i64_w, i32_w]); rfl)))
      repeat (first | (refine c_pure rfl rfl (by rfl) (v := ?_) ?_ (a' := ?_) ?_ ?_; rotate_left; (focus (intro w'; go_simp; with_reducible rfl)); rotate_left; (focus ((try simp only [Act.put, List.setIfInBounds_toArray, List.set_cons_zero, List.set_cons_succ, i64_w, i32_w]); rfl))) | (refine c_off rfl rfl (by rfl) (a' := ?_) ?_ ?_; rotate_left; (focus ((try simp only [Act.put, List.setIfInBounds_toArray, List.set_cons_zero, List.set_cons_succ, i64_w, i32_w]); rfl))))
      refine c_last rfl (fun K hK => ?_)
      go_simp
      refine hK _ _ ?_
      clear hK K f4 c4
      (refine c_norm (a' := ?_) ?_ ?_; rotate_left; (focus ((try simp only [Act.put, List.setIfInBounds_toArray, List.set_cons_zero, List.set_cons_succ, i64_w, i32_w]); rfl)))
      refine c_done ?_
      obtain ⟨⟨_, _, c2, c3, c4, c5, _⟩, _, _, f2, f3, f4, f5, _⟩ := TxAt.reads (x := ({ y with l := y.l ++ [⟨4, ⟨#[]⟩, 0, y.line⟩] } : TX)) S4.out
      go_wp2
      go_end0
      rw [E.out]
      exact ⟨rfl, ⟨_, blk_put S4.out 5 (.bool false) rfl, Kd.R_far HR4.out (fun _ h => h) _⟩, HB4.out.setB 5 _⟩
end Go.Proofs.Ythnmaaoafogbiaa.Lex
