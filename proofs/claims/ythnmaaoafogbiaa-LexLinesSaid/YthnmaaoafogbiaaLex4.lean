/- Walk: (*lex.text).plain. -/
import Derived.Test.YthnmaaoafogbiaaLex3
namespace Go.Proofs.Ythnmaaoafogbiaa.Lex
set_option linter.unusedSimpArgs false
set_option linter.unusedVariables false
open Go.RowKit Go.Proofs.YthnmaaoafogbiaaW.PrintWords Go.Proofs.YthnmaaoafogbiaaW.PrintLast Go.Proofs.YthnmaaoafogbiaaW.PrintMore PLexAll Go.Proofs.YthnmaaoafogbiaaW.Canon
attribute [local go_sem] max2_mx min2_mn max_two min_two max_three min_three max_four min_four

def ch (r : Int) : UInt8 := UInt8.ofNat r.toNat
/-- A rune out of comments. -/
def plainI (r : Int) (x : TX) : TX :=
  if 97 ≤ r ∧ r ≤ 122 then moreT 1 (ch r) x
  else if 48 ≤ r ∧ r ≤ 57 then moreT 2 (ch r) x
  else if r = 32 ∨ r = 9 ∨ r = 13 then endT x
  else if r = 35 then { endT x with rem := true }
  else if r = 45 then { endT x with kind := 2, less := true }
  else if r = 58 ∨ r = 44 then { endT x with l := (endT x).l ++ [⟨3, bs [ch r], 0, (endT x).line⟩] }
  else { x with bad := true }
theorem ch_nat (r : Int) (h0 : 0 ≤ r) (h1 : r < 128) : r = ((ch r).toNat : Int) ∧ (ch r).toNat < 128 := by
  have : (ch r).toNat = r.toNat := by
    rw [ch, UInt8.toNat_ofNat']
    omega
  omega



set_option maxHeartbeats 1000000 in
theorem plain_calls (w : World) (b base : Nat) (x : TX) (r : Int) (hbs : base ≤ w.heap.size) (h : TxAt w b base x) (hl : x.l.length ≤ 90000) (hs : x.s.length ≤ 90000) :
    Calls Try.prog 14 #[.pointer (some ⟨b, 0, none⟩), .int .i32 r] w fun e w' => e = .returned (.tuple #[]) ∧ TxAt w' b base (plainI r x) ∧ Kb base b w w' := by
  have H := Aside0.mk h
  clear h
  have hl2 := endT_len x
  by_cases h1 : 97 ≤ r ∧ r ≤ 122
  · have E : Aside0 (plainI r x = moreT 1 (ch r) x) := ⟨if_pos h1⟩
    obtain ⟨ha, hb⟩ := h1
    obtain ⟨q1, q2⟩ := ch_nat r (by omega) (by omega)
    have Q1 := Aside0.mk q1
    clear q1
    go_enter Try.func14, Try.ntmps14
    go_wp2_with (fail)
    refine (more_calls w b base x 1 (ch r) r Q1.out (by omega) q2 (by omega) H.out).mono ?_
    rintro e w1 ⟨rfl, hT, hB⟩
    have HT := Aside0.mk hT
    have HB := Aside0.mk hB
    clear hT hB
    go_wp2
    go_end0
    exact ⟨rfl, by rw [E.out]; exact HT.out, HB.out⟩
  by_cases h2 : 48 ≤ r ∧ r ≤ 57
  · have E : Aside0 (plainI r x = moreT 2 (ch r) x) := ⟨by rw [plainI, if_neg h1, if_pos h2]⟩
    obtain ⟨ha, hb⟩ := h2
    obtain ⟨q1, q2⟩ := ch_nat r (by omega) (by omega)
    have Q1 := Aside0.mk q1
    clear q1 h1
    go_enter Try.func14, Try.ntmps14
    go_wp2_with (fail)
    refine (more_calls w b base x 2 (ch r) r Q1.out (by omega) q2 (by omega) H.out).mono ?_
    rintro e w1 ⟨rfl, hT, hB⟩
    have HT := Aside0.mk hT
    have HB := Aside0.mk hB
    clear hT hB
    go_wp2
    go_end0
    exact ⟨rfl, by rw [E.out]; exact HT.out, HB.out⟩
  have z1 := h1
  have z2 := h2
  clear z1 z2
  by_cases h3 : r = 32 ∨ r = 9 ∨ r = 13
  · have E : Aside0 (plainI r x = endT x) := ⟨by rw [plainI, if_neg h1, if_neg h2, if_pos h3]⟩
    clear h1 h2
    rcases h3 with rfl | rfl | rfl
    all_goals
      go_enter Try.func14, Try.ntmps14
      go_wp2_with (fail)
      refine (end_calls w b base x hbs H.out (by omega) (by omega)).mono ?_
      rintro e w1 ⟨rfl, hT, hB⟩
      have HT := Aside0.mk hT
      have HB := Aside0.mk hB
      clear hT hB
      go_wp2
      go_end0
      exact ⟨rfl, by rw [E.out]; exact HT.out, HB.out⟩
  by_cases h4 : r = 35
  · have E : Aside0 (plainI r x = { endT x with rem := true }) := ⟨by rw [plainI, if_neg h1, if_neg h2, if_neg h3, if_pos h4]⟩
    clear h1 h2 h3
    subst h4
    go_enter Try.func14, Try.ntmps14
    go_wp2_with (fail)
    refine (end_calls w b base x hbs H.out (by omega) (by omega)).mono ?_
    rintro e w1 ⟨rfl, hT, hB⟩
    revert hl2 E hT
    generalize endT x = y
    intro hl2 E hT
    obtain ⟨v, hh, hr⟩ := hT
    have S1 := Aside0.mk hh
    have HR := Aside0.mk hr
    have HB := Aside0.mk hB
    have hlt := blk_lt hh
    have hsw := hB.size
    obtain ⟨⟨c0, c1, c2, c3, c4, c5, c6⟩, f0, f1, f2, f3, f4, f5, f6⟩ := TxAt.reads hh
    clear hh hr hB
    go_wp2
    go_end0
    rw [E.out]
    exact ⟨rfl, ⟨_, blk_put S1.out 5 (.bool true) rfl, Kd.R_far HR.out (fun _ h => h) _⟩, HB.out.setB 5 _⟩
  by_cases h5 : r = 45
  · have E : Aside0 (plainI r x = { endT x with kind := 2, less := true }) := ⟨by rw [plainI, if_neg h1, if_neg h2, if_neg h3, if_neg h4, if_pos h5]⟩
    clear h1 h2 h3 h4
    subst h5
    go_enter Try.func14, Try.ntmps14
    go_wp2_with (fail)
    refine (end_calls w b base x hbs H.out (by omega) (by omega)).mono ?_
    rintro e w1 ⟨rfl, hT, hB⟩
    revert hl2 E hT
    generalize endT x = y
    intro hl2 E hT
    obtain ⟨v, hh, hr⟩ := hT
    have S1 := Aside0.mk hh
    have HR := Aside0.mk hr
    have HB := Aside0.mk hB
    have hlt := blk_lt hh
    have hsw := hB.size
    obtain ⟨⟨c0, c1, c2, c3, c4, c5, c6⟩, f0, f1, f2, f3, f4, f5, f6⟩ := TxAt.reads hh
    clear hh hr hB
    go_wp2
    go_end0
    rw [E.out]
    have k2 := blk_put S1.out 2 (.int .i64 2) (cs' := #[v, .int .i64 y.line, .int .i64 2, .string (bs y.s), .bool y.less, .bool y.rem, .bool y.bad]) rfl
    exact ⟨rfl, ⟨_, blk_put k2 4 (.bool true) rfl, Kd.R_far (Kd.R_far HR.out (fun _ h => h) _) (fun _ h => h) _⟩, (HB.out.setB 2 _).setB 4 _⟩
  by_cases h6 : r = 58 ∨ r = 44
  · have E : Aside0 (plainI r x = { endT x with l := (endT x).l ++ [⟨3, bs [ch r], 0, (endT x).line⟩] }) := ⟨by rw [plainI, if_neg h1, if_neg h2, if_neg h3, if_neg h4, if_neg h5, if_pos h6]⟩
    clear h1 h2 h3 h4 h5
    have en : Aside0 (Utf8.encode r = bs [ch r]) := ⟨by obtain ⟨q1, q2⟩ := ch_nat r (by omega) (by omega); rw (config := { occs := .pos [1] }) [q1]; exact encode_asc _ q2⟩
    rcases h6 with rfl | rfl
    · go_enter Try.func14, Try.ntmps14
      go_wp2_with (fail)
      refine (end_calls w b base x hbs H.out (by omega) (by omega)).mono ?_
      rintro e w1 ⟨rfl, hT, hB⟩
      revert hl2 E hT
      generalize endT x = y
      intro hl2 E hT
      obtain ⟨v, hh, hr⟩ := hT
      have S1 := Aside0.mk hh
      have HR := Aside0.mk hr
      have HB := Aside0.mk hB
      have hlt := blk_lt hh
      have hsw := hB.size
      obtain ⟨⟨c0, c1, c2, c3, c4, c5, c6⟩, f0, f1, f2, f3, f4, f5, f6⟩ := TxAt.reads hh
      clear hh hr hB
      go_wp2
      refine canon [(0,1),(1,1),(2,1),(3,1),(5,1),(6,1),(7,1),(8,1),(9,1),(4,2),(10,2),(11,1),(12,0),(13,3),(14,1),(15,1),(16,3)] [13,16] (fun W => W.heap[b]? = some (.cells (y.cells v) 45 (0, 0))) (by kernel_rfl) rfl rfl (by kernel_rfl) (by intro c d v a w h; cases d <;> exact h) ?_
      intro w3 hb3 _
      have S3 := Aside0.mk ((hb3.block _ (blk_lt S1.out)).trans S1.out)
      have HR3 := Aside0.mk (Kd.R_below HR.out hb3)
      have HB3 := Aside0.mk (HB.out.trans (hb3.mono (show base ≤ w1.heap.size by omega)))
      have hl3 := blk_lt S3.out
      have hs3 := HB3.out.size
      clear hb3 HR HB S1
      repeat (first | (refine c_pure rfl rfl (by rfl) (v := ?_) ?_ (a' := ?_) ?_ ?_; rotate_left; (focus (intro w'; go_simp; with_reducible rfl)); rotate_left; (focus ((try simp only [Act.put, List.setIfInBounds_toArray, List.set_cons_zero, List.set_cons_succ, i64_w, i32_w]); rfl))) | (refine c_off rfl rfl (by rfl) (a' := ?_) ?_ ?_; rotate_left; (focus ((try simp only [Act.put, List.setIfInBounds_toArray, List.set_cons_zero, List.set_cons_succ, i64_w, i32_w]); rfl))))
      (refine c_cell rfl rfl (by rfl) (S3.out) 22 (.tmp 71) rfl (⟨b, 0, none⟩) rfl (v) (fun w' hS' => cell_of_row w' b 0 _ 45 (0, 0) hS') Try.underlying22 rfl (a' := ?_) ?_ ?_; rotate_left; (focus ((try simp only [Act.put, List.setIfInBounds_toArray, List.set_cons_zero, List.set_cons_succ, i64_w, i32_w]); rfl)))
      (refine c_cell rfl rfl (by rfl) (S3.out) 3 (.tmp 77) rfl (⟨b, 1, none⟩) rfl (.int .i64 y.line) (fun w' hS' => cell_of_row w' b 1 _ 45 (0, 0) hS') Try.underlying3 rfl (a' := ?_) ?_ ?_; rotate_left; (focus ((try simp only [Act.put, List.setIfInBounds_toArray, List.set_cons_zero, List.set_cons_succ, i64_w, i32_w]); rfl)))
      repeat (first | (refine c_pure rfl rfl (by rfl) (v := ?_) ?_ (a' := ?_) ?_ ?_; rotate_left; (focus (intro w'; go_simp; with_reducible rfl)); rotate_left; (focus ((try simp only [Act.put, List.setIfInBounds_toArray, List.set_cons_zero, List.set_cons_succ, i64_w, i32_w]); rfl))) | (refine c_off rfl rfl (by rfl) (a' := ?_) ?_ ?_; rotate_left; (focus ((try simp only [Act.put, List.setIfInBounds_toArray, List.set_cons_zero, List.set_cons_succ, i64_w, i32_w]); rfl))))
      refine c_eff rfl (fun K hK => ?_)
      go_simp
      refine hK _ _ (fun h => (Below.heap_alloc _ _ _ (blk_lt h)).trans h) ?_
      clear hK K
      (refine c_norm (a' := ?_) ?_ ?_; rotate_left; (focus ((try simp only [Act.put, List.setIfInBounds_toArray, List.set_cons_zero, List.set_cons_succ, i64_w, i32_w]); rfl)))
      refine c_last rfl (fun K hK => ?_)
      refine Kd.R_append_step k31 (w0 := w3) base (by rfl) (.tmp 72) (.tmp 80) 22 30 (.agg #[(.int .i64 0), (.string ⟨#[]⟩), (.int .i64 0), (.int .i64 0)]) 40 rfl Try.underlying22 info30 rfl (by decide) (by omega) _ y.l ⟨3, (Utf8.encode 58), 0, y.line⟩ [.int .i64 3, .string (Utf8.encode 58), .int .i64 0, .int .i64 y.line] (fun k => k ≠ b) (fun _ => False) rfl rfl (k31_mkM _ _ _ ⟨3, (Utf8.encode 58), 0, y.line⟩) (fun _ hk => hk.elim) (fun k hk => by omega) HR3.out (Below.refl base w3) (by omega) (by omega) ?_
      intro v1 w4 ho hb4 hg _
      obtain ⟨A1, n2, k1, rfl⟩ := slice_of_R ho
      refine hK _ _ ?_
      clear hK K
      have h4 := blk_grown S3.out hg (fun h => HR3.out.1 b h.symm rfl)
      have S4 := Aside0.mk (blk_put h4 0 (.slice A1 n2 k1) (cs' := ({ y with l := y.l ++ [⟨3, (Utf8.encode 58), 0, y.line⟩] } : TX).cells (.slice A1 n2 k1)) rfl)
      have HR4 := Aside0.mk (Kd.R_far (p := ⟨b, 0, none⟩) ho (fun _ h => h) (.slice A1 n2 k1))
      have HB4 := Aside0.mk ((HB3.out.trans hb4).setB 0 (.slice A1 n2 k1))
      have f4 := blk_frozen h4 0
      have c4 := cell_of_row _ b 0 _ 45 (0, 0) h4
      clear ho hb4 hg h4 S3 HB3 HR3
      (refine c_norm (a' := ?_) ?_ ?_; rotate_left; (focus ((try simp only [Act.put, List.setIfInBounds_toArray, List.set_cons_zero, List.set_cons_succ, i64_w, i32_w]); rfl)))
      repeat (first | (refine c_pure rfl rfl (by rfl) (v := ?_) ?_ (a' := ?_) ?_ ?_; rotate_left; (focus (intro w'; go_simp; with_reducible rfl)); rotate_left; (focus ((try simp only [Act.put, List.setIfInBounds_toArray, List.set_cons_zero, List.set_cons_succ, i64_w, i32_w]); rfl))) | (refine c_off rfl rfl (by rfl) (a' := ?_) ?_ ?_; rotate_left; (focus ((try simp only [Act.put, List.setIfInBounds_toArray, List.set_cons_zero, List.set_cons_succ, i64_w, i32_w]); rfl))))
      refine c_last rfl (fun K hK => ?_)
      go_simp
      refine hK _ _ ?_
      clear hK K f4 c4
      (refine c_norm (a' := ?_) ?_ ?_; rotate_left; (focus ((try simp only [Act.put, List.setIfInBounds_toArray, List.set_cons_zero, List.set_cons_succ, i64_w, i32_w]); rfl)))
      refine c_done ?_
      obtain ⟨⟨_, _, c2, c3, c4, c5, _⟩, _, _, f2, f3, f4, f5, _⟩ := TxAt.reads (x := ({ y with l := y.l ++ [⟨3, (Utf8.encode 58), 0, y.line⟩] } : TX)) S4.out
      go_wp2
      go_end0
      rw [E.out, ← en.out]
      exact ⟨rfl, ⟨_, S4.out, HR4.out⟩, HB4.out⟩
    · go_enter Try.func14, Try.ntmps14
      go_wp2_with (fail)
      refine (end_calls w b base x hbs H.out (by omega) (by omega)).mono ?_
      rintro e w1 ⟨rfl, hT, hB⟩
      revert hl2 E hT
      generalize endT x = y
      intro hl2 E hT
      obtain ⟨v, hh, hr⟩ := hT
      have S1 := Aside0.mk hh
      have HR := Aside0.mk hr
      have HB := Aside0.mk hB
      have hlt := blk_lt hh
      have hsw := hB.size
      obtain ⟨⟨c0, c1, c2, c3, c4, c5, c6⟩, f0, f1, f2, f3, f4, f5, f6⟩ := TxAt.reads hh
      clear hh hr hB
      go_wp2
      refine canon [(0,1),(1,1),(2,1),(3,1),(5,1),(6,1),(7,1),(8,1),(9,1),(4,2),(10,2),(11,1),(12,0),(13,3),(14,1),(15,1),(16,3)] [13,16] (fun W => W.heap[b]? = some (.cells (y.cells v) 45 (0, 0))) (by kernel_rfl) rfl rfl (by kernel_rfl) (by intro c d v a w h; cases d <;> exact h) ?_
      intro w3 hb3 _
      have S3 := Aside0.mk ((hb3.block _ (blk_lt S1.out)).trans S1.out)
      have HR3 := Aside0.mk (Kd.R_below HR.out hb3)
      have HB3 := Aside0.mk (HB.out.trans (hb3.mono (show base ≤ w1.heap.size by omega)))
      have hl3 := blk_lt S3.out
      have hs3 := HB3.out.size
      clear hb3 HR HB S1
      repeat (first | (refine c_pure rfl rfl (by rfl) (v := ?_) ?_ (a' := ?_) ?_ ?_; rotate_left; (focus (intro w'; go_simp; with_reducible rfl)); rotate_left; (focus ((try simp only [Act.put, List.setIfInBounds_toArray, List.set_cons_zero, List.set_cons_succ, i64_w, i32_w]); rfl))) | (refine c_off rfl rfl (by rfl) (a' := ?_) ?_ ?_; rotate_left; (focus ((try simp only [Act.put, List.setIfInBounds_toArray, List.set_cons_zero, List.set_cons_succ, i64_w, i32_w]); rfl))))
      (refine c_cell rfl rfl (by rfl) (S3.out) 22 (.tmp 71) rfl (⟨b, 0, none⟩) rfl (v) (fun w' hS' => cell_of_row w' b 0 _ 45 (0, 0) hS') Try.underlying22 rfl (a' := ?_) ?_ ?_; rotate_left; (focus ((try simp only [Act.put, List.setIfInBounds_toArray, List.set_cons_zero, List.set_cons_succ, i64_w, i32_w]); rfl)))
      (refine c_cell rfl rfl (by rfl) (S3.out) 3 (.tmp 77) rfl (⟨b, 1, none⟩) rfl (.int .i64 y.line) (fun w' hS' => cell_of_row w' b 1 _ 45 (0, 0) hS') Try.underlying3 rfl (a' := ?_) ?_ ?_; rotate_left; (focus ((try simp only [Act.put, List.setIfInBounds_toArray, List.set_cons_zero, List.set_cons_succ, i64_w, i32_w]); rfl)))
      repeat (first | (refine c_pure rfl rfl (by rfl) (v := ?_) ?_ (a' := ?_) ?_ ?_; rotate_left; (focus (intro w'; go_simp; with_reducible rfl)); rotate_left; (focus ((try simp only [Act.put, List.setIfInBounds_toArray, List.set_cons_zero, List.set_cons_succ, i64_w, i32_w]); rfl))) | (refine c_off rfl rfl (by rfl) (a' := ?_) ?_ ?_; rotate_left; (focus ((try simp only [Act.put, List.setIfInBounds_toArray, List.set_cons_zero, List.set_cons_succ, i64_w, i32_w]); rfl))))
      refine c_eff rfl (fun K hK => ?_)
      go_simp
      refine hK _ _ (fun h => (Below.heap_alloc _ _ _ (blk_lt h)).trans h) ?_
      clear hK K
      (refine c_norm (a' := ?_) ?_ ?_; rotate_left; (focus ((try simp only [Act.put, List.setIfInBounds_toArray, List.set_cons_zero, List.set_cons_succ, i64_w, i32_w]); rfl)))
      refine c_last rfl (fun K hK => ?_)
      refine Kd.R_append_step k31 (w0 := w3) base (by rfl) (.tmp 72) (.tmp 80) 22 30 (.agg #[(.int .i64 0), (.string ⟨#[]⟩), (.int .i64 0), (.int .i64 0)]) 40 rfl Try.underlying22 info30 rfl (by decide) (by omega) _ y.l ⟨3, (Utf8.encode 44), 0, y.line⟩ [.int .i64 3, .string (Utf8.encode 44), .int .i64 0, .int .i64 y.line] (fun k => k ≠ b) (fun _ => False) rfl rfl (k31_mkM _ _ _ ⟨3, (Utf8.encode 44), 0, y.line⟩) (fun _ hk => hk.elim) (fun k hk => by omega) HR3.out (Below.refl base w3) (by omega) (by omega) ?_
      intro v1 w4 ho hb4 hg _
      obtain ⟨A1, n2, k1, rfl⟩ := slice_of_R ho
      refine hK _ _ ?_
      clear hK K
      have h4 := blk_grown S3.out hg (fun h => HR3.out.1 b h.symm rfl)
      have S4 := Aside0.mk (blk_put h4 0 (.slice A1 n2 k1) (cs' := ({ y with l := y.l ++ [⟨3, (Utf8.encode 44), 0, y.line⟩] } : TX).cells (.slice A1 n2 k1)) rfl)
      have HR4 := Aside0.mk (Kd.R_far (p := ⟨b, 0, none⟩) ho (fun _ h => h) (.slice A1 n2 k1))
      have HB4 := Aside0.mk ((HB3.out.trans hb4).setB 0 (.slice A1 n2 k1))
      have f4 := blk_frozen h4 0
      have c4 := cell_of_row _ b 0 _ 45 (0, 0) h4
      clear ho hb4 hg h4 S3 HB3 HR3
      (refine c_norm (a' := ?_) ?_ ?_; rotate_left; (focus ((try simp only [Act.put, List.setIfInBounds_toArray, List.set_cons_zero, List.set_cons_succ, i64_w, i32_w]); rfl)))
      repeat (first | (refine c_pure rfl rfl (by rfl) (v := ?_) ?_ (a' := ?_) ?_ ?_; rotate_left; (focus (intro w'; go_simp; with_reducible rfl)); rotate_left; (focus ((try simp only [Act.put, List.setIfInBounds_toArray, List.set_cons_zero, List.set_cons_succ, i64_w, i32_w]); rfl))) | (refine c_off rfl rfl (by rfl) (a' := ?_) ?_ ?_; rotate_left; (focus ((try simp only [Act.put, List.setIfInBounds_toArray, List.set_cons_zero, List.set_cons_succ, i64_w, i32_w]); rfl))))
      refine c_last rfl (fun K hK => ?_)
      go_simp
      refine hK _ _ ?_
      clear hK K f4 c4
      (refine c_norm (a' := ?_) ?_ ?_; rotate_left; (focus ((try simp only [Act.put, List.setIfInBounds_toArray, List.set_cons_zero, List.set_cons_succ, i64_w, i32_w]); rfl)))
      refine c_done ?_
      obtain ⟨⟨_, _, c2, c3, c4, c5, _⟩, _, _, f2, f3, f4, f5, _⟩ := TxAt.reads (x := ({ y with l := y.l ++ [⟨3, (Utf8.encode 44), 0, y.line⟩] } : TX)) S4.out
      go_wp2
      go_end0
      rw [E.out, ← en.out]
      exact ⟨rfl, ⟨_, S4.out, HR4.out⟩, HB4.out⟩
  · have E : Aside0 (plainI r x = { x with bad := true }) := ⟨by rw [plainI, if_neg h1, if_neg h2, if_neg h3, if_neg h4, if_neg h5, if_neg h6]⟩
    obtain ⟨n1, n2, n3, n4, n5, n6⟩ : ¬ r = 32 ∧ ¬ r = 9 ∧ ¬ r = 13 ∧ ¬ r = 35 ∧ ¬ r = 45 ∧ ¬ r = 58 := by omega
    have n7 : ¬ r = 44 := by omega
    replace n1 := beq_eq_false_iff_ne.mpr n1
    replace n2 := beq_eq_false_iff_ne.mpr n2
    replace n3 := beq_eq_false_iff_ne.mpr n3
    replace n4 := beq_eq_false_iff_ne.mpr n4
    replace n5 := beq_eq_false_iff_ne.mpr n5
    replace n6 := beq_eq_false_iff_ne.mpr n6
    replace n7 := beq_eq_false_iff_ne.mpr n7
    clear h3 h4 h5 h6
    have hT := H.out
    obtain ⟨v, hh, hr⟩ := hT
    have S1 := Aside0.mk hh
    have HR := Aside0.mk hr
    obtain ⟨⟨c0, c1, c2, c3, c4, c5, c6⟩, f0, f1, f2, f3, f4, f5, f6⟩ := TxAt.reads hh
    clear hh hr
    go_enter Try.func14, Try.ntmps14
    go_wp2
    all_goals
      go_end0
      rw [E.out]
      exact ⟨rfl, ⟨_, blk_put S1.out 6 (.bool true) rfl, Kd.R_far HR.out (fun _ h => h) _⟩, (Kb.refl _ _ _).setB 6 _⟩
end Go.Proofs.Ythnmaaoafogbiaa.Lex
