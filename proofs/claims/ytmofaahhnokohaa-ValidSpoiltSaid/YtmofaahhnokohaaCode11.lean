/- Walk: are two programs the same? -/
import Derived.Test.YtmofaahhnokohaaCode9
namespace Go.Proofs.Ytmofaahhnokohaa.Code
set_option linter.unusedSimpArgs false
set_option linter.unusedVariables false
open Go.RowKit Go.Proofs.YtmofaahhnokohaaW.PrintWords Go.Proofs.YtmofaahhnokohaaW.PrintLast Go.Proofs.YtmofaahhnokohaaW.PrintMore PCodeAll Go.Proofs.YtmofaahhnokohaaW.CanonE
attribute [local go_sem] max2_mx min2_mn max_two min_two max_three min_three max_four min_four

theorem bfalse {b : Bool} {P : Prop} (h : b = true ↔ P) (hn : ¬ P) : b = false := by
  cases b
  · rfl
  · exact absurd (h.1 rfl) hn
theorem btrue {b : Bool} {P : Prop} (h : b = true ↔ P) (hp : P) : b = true := h.2 hp
theorem take_eq_next {α : Type} {xs ys : List α} {j : Nat} (h : xs.take j = ys.take j) (hx : j < xs.length) (hy : j < ys.length) (he : xs[j]'hx = ys[j]'hy) : xs.take (j + 1) = ys.take (j + 1) := by
  rw [← List.take_append_getElem hx, ← List.take_append_getElem hy, h, he]
theorem take_eq_all {α : Type} {xs ys : List α} (hl : xs.length = ys.length) (h : xs.take xs.length = ys.take xs.length) : xs = ys := by
  rwa [List.take_length, hl, List.take_length] at h
theorem s26_ext {x y : S26} (h0 : x.f0 = y.f0) (h1 : x.f1 = y.f1) (h2 : x.f2 = y.f2) (h3 : x.f3 = y.f3) : x = y := by
  cases x; cases y; simp_all
theorem pg_ne {b : Bool} {fs gs : List (List S26)} {fu de fl fu2 de2 fl2 : Int} (h : b = true ↔ (⟨fs, fu, de, fl⟩ : PG) = ⟨gs, fu2, de2, fl2⟩) (hn : fs ≠ gs ∨ fu ≠ fu2 ∨ de ≠ de2 ∨ fl ≠ fl2) : b = false :=
  bfalse h (fun he => by injection he with h1 h2 h3 h4; rcases hn with hn | hn | hn | hn <;> contradiction)
theorem wrap_next {j n : Nat} (h : j < n) (hn : n ≤ 9223372036854775807) : wrap64 ((j : Int) + 1) = (j : Int) + 1 := wrap64_id _ (by omega)
theorem num_next {j : Nat} (h : wrap64 ((j : Int) + 1) = (j : Int) + 1) : Value.int .i64 (wrap64 ((j : Int) + 1)) = Value.int .i64 ((j + 1 : Nat) : Int) := by rw [h]; rfl
theorem meas_next {j n : Nat} (hj : j < n) (h : wrap64 ((j : Int) + 1) = (j : Int) + 1) : n - (intOf (.int .i64 (wrap64 ((j : Int) + 1)))).toNat < n - (intOf (.int .i64 (j : Int))).toNat := by rw [h]; simp only [intOf]; omega



theorem cs_meas' {n j : Nat} (h : j < n) : n - ((j : Int) + 1).toNat < n - ((j : Int)).toNat := by omega
set_option maxHeartbeats 2000000 in
set_option maxRecDepth 100000 in
theorem Same_calls (p q : PG) (A B : Option Addr) (c d : Nat) (b : Bool) (hb : b = true ↔ p = q) (w : World) (hC : p.C w A) (hD : q.C w B) :
    Calls Try.prog 37 #[p.val A c, q.val B d] w fun e w' => e = .returned (.bool b) ∧ Below w.heap.size w w' := by
  obtain ⟨fs, fu, de, fl⟩ := p
  obtain ⟨gs, fu2, de2, fl2⟩ := q
  have HC := Aside0.mk (show Kd.C (Kd.slice 26 k26) w A fs.length fs from hC)
  have HD := Aside0.mk (show Kd.C (Kd.slice 26 k26) w B gs.length gs from hD)
  have HBB := Aside0.mk hb
  clear hC hD hb
  have S0 := Aside0.mk (blk_alloc (heap_alloc_new w (.cells #[.slice A fs.length c, .int .i64 fu, .int .i64 de, .int .i64 fl] 33)) (.cells #[.slice B gs.length d, .int .i64 fu2, .int .i64 de2, .int .i64 fl2] 33))
  have T0 := Aside0.mk (heap_alloc_new (w.alloc (.cells #[.slice A fs.length c, .int .i64 fu, .int .i64 de, .int .i64 fl] 33)) (.cells #[.slice B gs.length d, .int .i64 fu2, .int .i64 de2, .int .i64 fl2] 33))
  rw [World.size_alloc] at T0
  have HB := Aside0.mk (below_two (Below.refl w.heap.size w) (Nat.le_refl _) (.cells #[.slice A fs.length c, .int .i64 fu, .int .i64 de, .int .i64 fl] 33) (.cells #[.slice B gs.length d, .int .i64 fu2, .int .i64 de2, .int .i64 fl2] 33))
  show Calls Try.prog 37 #[.agg #[.slice A fs.length c, .int .i64 fu, .int .i64 de, .int .i64 fl], .agg #[.slice B gs.length d, .int .i64 fu2, .int .i64 de2, .int .i64 fl2]] w _
  obtain ⟨r0, r1, r2, r3⟩ := ps_reads S0.out
  obtain ⟨s0, s1, s2, s3⟩ := ps_reads T0.out
  by_cases e1 : fu = fu2
  case neg =>
    have E := Aside0.mk (pg_ne HBB.out (.inr (.inl e1)))
    have t1 : (fu != fu2) = true := bne_iff_ne.mpr e1
    clear e1
    go_enter Try.func37, Try.ntmps37
    go_wp2_with (fail)
    go_ret
    exact ⟨by rw [E.out]; rfl, HB.out⟩
  have t1 : (fu != fu2) = false := by rw [e1]; exact bne_self_eq_false _
  by_cases e2 : de = de2
  case neg =>
    have E := Aside0.mk (pg_ne HBB.out (.inr (.inr (.inl e2))))
    have t2 : (de != de2) = true := bne_iff_ne.mpr e2
    clear e1 e2
    go_enter Try.func37, Try.ntmps37
    go_wp2_with (fail)
    go_ret
    exact ⟨by rw [E.out]; rfl, HB.out⟩
  have t2 : (de != de2) = false := by rw [e2]; exact bne_self_eq_false _
  by_cases e3 : fl = fl2
  case neg =>
    have E := Aside0.mk (pg_ne HBB.out (.inr (.inr (.inr e3))))
    have t3 : (fl != fl2) = true := bne_iff_ne.mpr e3
    clear e1 e2 e3
    go_enter Try.func37, Try.ntmps37
    go_wp2_with (fail)
    go_ret
    exact ⟨by rw [E.out]; rfl, HB.out⟩
  have t3 : (fl != fl2) = false := by rw [e3]; exact bne_self_eq_false _
  by_cases e4 : fs.length = gs.length
  case neg =>
    have E := Aside0.mk (pg_ne HBB.out (.inl (fun he => e4 (by rw [he]))))
    have t4 : ((fs.length : Int) != (gs.length : Int)) = true := bne_iff_ne.mpr (by omega)
    clear e1 e2 e3 e4
    go_enter Try.func37, Try.ntmps37
    go_wp2_with (fail)
    go_ret
    exact ⟨by rw [E.out]; rfl, HB.out⟩
  have t4 : ((fs.length : Int) != (gs.length : Int)) = false := by rw [e4]; exact bne_self_eq_false _
  have HE := Aside0.mk (⟨e1, e2, e3, e4⟩ : fu = fu2 ∧ de = de2 ∧ fl = fl2 ∧ fs.length = gs.length)
  clear e1 e2 e3 e4
  go_enter Try.func37, Try.ntmps37
  go_wp2_with (fail)
  clear r0 r1 r2 r3 s0 s1 s2 s3 t1 t2 t3 t4
  revert S0 T0 HB
  generalize (w.alloc (.cells #[.slice A fs.length c, .int .i64 fu, .int .i64 de, .int .i64 fl] 33)).alloc (.cells #[.slice B gs.length d, .int .i64 fu2, .int .i64 de2, .int .i64 fl2] 33) = w1
  intro S0 T0 HB
  obtain ⟨gb, hgb⟩ : ∃ gb, w.heap.size + 1 = gb := ⟨_, rfl⟩
  rw [hgb] at T0
  rw [hgb]
  clear hgb
  go_loopw [5] (fun u w' => ∃ i : Nat, u = .int .i64 i ∧ i ≤ fs.length ∧ Aside0 (fs.take i = gs.take i) ∧ Aside0 (Below w1.heap.size w1 w')) (fun u _ => fs.length - (intOf u).toNat)
  case atStart => exact ⟨0, rfl, by omega, ⟨rfl⟩, ⟨Below.refl _ _⟩⟩
  case round =>
    obtain ⟨i, rfl, hi, HI, HJ⟩ := hrel
    by_cases hlt : i < fs.length
    · have hlt2 : i < gs.length := by have := HE.out.2.2.2; omega
      obtain ⟨ad, A0, c0, hA, a0, hca0, hA0⟩ := at_L2 (Kd.C_below HC.out HB.out) i (by omega) (by omega)
      obtain ⟨bd, B0, d0, hB0', e0, hcb0, hB0⟩ := at_L2 (Kd.C_below HD.out HB.out) i (by omega) (by omega)
      subst hA
      subst hB0'
      rw [Int.toNat_natCast, rd_L2_at fs i hlt] at a0
      rw [rd_L2_at fs i hlt] at hA0
      rw [Int.toNat_natCast, rd_L2_at gs i hlt2] at e0
      rw [rd_L2_at gs i hlt2] at hB0
      have hixa := fun (W : World) => ix31 ad fs.length c (i : Int) i W (by omega) (by omega) (Int.toNat_natCast i)
      have hixb := fun (W : World) => ix31 bd gs.length d (i : Int) i W (by omega) (by omega) (Int.toNat_natCast i)
      have HSTO := Aside0.mk (fun he => take_eq_next HI.out hlt hlt2 he)
      obtain ⟨f, hf⟩ : ∃ f, fs[i]'hlt = f := ⟨_, rfl⟩
      obtain ⟨f2, hf2⟩ : ∃ f2, gs[i]'hlt2 = f2 := ⟨_, rfl⟩
      have HFG := Aside0.mk (show fs = gs → f = f2 by intro he; subst he; rw [← hf, ← hf2])
      rw [hf] at a0 hA0 HSTO
      rw [hf2] at e0 hB0 HSTO
      have HFC := Aside0.mk hA0
      have HGC := Aside0.mk hB0
      clear hA0 hB0 hf hf2 hca0 hcb0
      have HIXA := Aside0.mk hixa
      have HIXB := Aside0.mk hixb
      have A01 := Aside0.mk a0
      have E01 := Aside0.mk e0
      have R01 := Aside0.mk (ps_reads S0.out).1
      have R02 := Aside0.mk (ps_reads T0.out).1
      have R0 := Aside0.mk (ps_reads (blk_below S0.out HJ.out)).1
      have R1 := Aside0.mk (ps_reads (blk_below T0.out HJ.out)).1
      have A0w := Aside0.mk (cell_below a0 HJ.out)
      have E0w := Aside0.mk (cell_below e0 HJ.out)
      clear a0 e0
      have r0 := R0.out
      have s0 := R1.out
      have a0 := A0w.out
      have e0 := E0w.out
      by_cases el : f.length = f2.length
      case neg =>
        have E := Aside0.mk (pg_ne HBB.out (.inl (fun he => el (by rw [HFG.out he]))))
        have t0 : ((f.length : Int) != (f2.length : Int)) = true := bne_iff_ne.mpr (by omega)
        have HB9 := Aside0.mk (below_step HB.out HJ.out)
        clear el
        go_wp2_with (fail)
        go_quiet (fail)
        go_wp2_with (fail)
        go_ret
        exact ⟨by rw [E.out]; rfl, pw_below_drewN HB9.out _⟩
      have t0 : ((f.length : Int) != (f2.length : Int)) = false := by rw [el]; exact bne_self_eq_false _
      have HEL := Aside0.mk el
      clear el
      go_wp2_with (fail)
      go_quiet (fail)
      go_wp2_with (fail)
      clear r0 s0 a0 e0 R0 R1 A0w E0w hixa hixb
      go_loopw [6] (fun u w' => ∃ j : Nat, u = .int .i64 j ∧ j ≤ f.length ∧ Aside0 (f.take j = f2.take j) ∧ Aside0 (Below w1.heap.size w1 w')) (fun u _ => f.length - (intOf u).toNat)
      case atStart => exact ⟨0, rfl, by omega, ⟨rfl⟩, ⟨pw_below_drewN HJ.out _⟩⟩
      case round =>
        obtain ⟨j, rfl, hj, HI2, HJ9⟩ := hrel
        clear HJ
        have r0 := (ps_reads (blk_below S0.out HJ9.out)).1
        have a0 := cell_below A01.out HJ9.out
        have hixa := HIXA.out
        by_cases hjl : j < f.length
        · have hjl2 : j < f2.length := by have := HEL.out; omega
          obtain ⟨af, hAf, b0, b1, b2, b3⟩ := at_T26 HFC.out j (by omega) (by omega)
          obtain ⟨bf, hBf, d0', d1, d2, d3⟩ := at_T26 HGC.out j (by omega) (by omega)
          subst hAf
          subst hBf
          obtain ⟨nn, hnn⟩ : ∃ nn : Nat, ((j : Int)).toNat * 4 = nn := ⟨_, rfl⟩
          rw [hnn, rd_T26_at f j hjl] at b0 b1 b2 b3
          rw [hnn, rd_T26_at f2 j hjl2] at d0' d1 d2 d3
          have hix2 := fun (W : World) => ix38 af f.length c0 (j : Int) nn W (by omega) (by omega) hnn
          have hix3 := fun (W : World) => ix38 bf f2.length d0 (j : Int) nn W (by omega) (by omega) hnn
          have HST' := Aside0.mk (fun he => take_eq_next HI2.out hjl hjl2 he)
          obtain ⟨x, hx⟩ : ∃ x, f[j]'hjl = x := ⟨_, rfl⟩
          obtain ⟨y, hy⟩ : ∃ y, f2[j]'hjl2 = y := ⟨_, rfl⟩
          have HW6 := Aside0.mk (show wrap64 ((j : Int) + 1) = (j : Int) + 1 from wrap_next hjl HFC.out.2.1)
          have HXY := Aside0.mk (show fs = gs → x = y by intro he; have h := HFG.out he; subst h; rw [← hx, ← hy])
          rw [hx] at b0 b1 b2 b3 HST'
          rw [hy] at d0' d1 d2 d3 HST'
          have HST := HST'
          have B0 := Aside0.mk b0
          have B1 := Aside0.mk b1
          have B2 := Aside0.mk b2
          have B3 := Aside0.mk b3
          have D0 := Aside0.mk d0'
          have D1 := Aside0.mk d1
          have D2 := Aside0.mk d2
          have D3 := Aside0.mk d3
          have hixb := HIXB.out
          clear b0 b1 b2 b3 d0' d1 d2 d3 hnn hx hy HST'
          go_wp2_with (fail)
          clear r0 a0
          refine canon [.pure 0, .pure 2, .pure 5, .pure 8, .pure 10, .pure 13, .held 1, .pure 3, .held 4, .pure 6, .held 7, .held 9, .pure 11, .held 12, .pure 14, .held 15, .two 16 17, .eff 18, .eff 19] [] (fun W => Below w1.heap.size w1 W) (by kernel_rfl) rfl rfl (by kernel_rfl) (by intro c d v a w h; cases d <;> exact h) ?_
          intro w6 hb6 _
          replace HJ9 := Aside0.mk (below_step HJ9.out hb6)
          have h16 := HJ9.out.size
          have h10 := HB.out.size
          clear hb6
          repeat (first | (refine c_pure rfl rfl (by rfl) (v := ?_) ?_ (a' := ?_) ?_ ?_; rotate_left; (focus (intro w'; go_simp; with_reducible rfl)); rotate_left; (focus ((try simp only [Act.put, List.setIfInBounds_toArray, List.set_cons_zero, List.set_cons_succ, i64_w, i32_w]); rfl))) | (refine c_off rfl rfl (by rfl) (a' := ?_) ?_ ?_; rotate_left; (focus ((try simp only [Act.put, List.setIfInBounds_toArray, List.set_cons_zero, List.set_cons_succ, i64_w, i32_w]); rfl))))
          (refine c_cell rfl rfl (by rfl) (HJ9.out) 31 (.tmp 67) rfl (⟨w.heap.size, 0, none⟩) rfl (.slice (some ad) fs.length c) (fun w' hS' => cell_below R01.out hS') Try.underlying31 rfl (a' := ?_) ?_ ?_; rotate_left; (focus ((try simp only [Act.put, List.setIfInBounds_toArray, List.set_cons_zero, List.set_cons_succ, i64_w, i32_w]); rfl)))
          repeat (first | (refine c_pure rfl rfl (by rfl) (v := ?_) ?_ (a' := ?_) ?_ ?_; rotate_left; (focus (intro w'; go_simp; with_reducible rfl)); rotate_left; (focus ((try simp only [Act.put, List.setIfInBounds_toArray, List.set_cons_zero, List.set_cons_succ, i64_w, i32_w]); rfl))) | (refine c_off rfl rfl (by rfl) (a' := ?_) ?_ ?_; rotate_left; (focus ((try simp only [Act.put, List.setIfInBounds_toArray, List.set_cons_zero, List.set_cons_succ, i64_w, i32_w]); rfl))))
          (refine c_cell rfl rfl (by rfl) (HJ9.out) 38 (.tmp 70) rfl (ad.add i) rfl (.slice (some af) f.length c0) (fun w' hS' => cell_below A01.out hS') Try.underlying38 rfl (a' := ?_) ?_ ?_; rotate_left; (focus ((try simp only [Act.put, List.setIfInBounds_toArray, List.set_cons_zero, List.set_cons_succ, i64_w, i32_w]); rfl)))
          repeat (first | (refine c_pure rfl rfl (by rfl) (v := ?_) ?_ (a' := ?_) ?_ ?_; rotate_left; (focus (intro w'; go_simp; with_reducible rfl)); rotate_left; (focus ((try simp only [Act.put, List.setIfInBounds_toArray, List.set_cons_zero, List.set_cons_succ, i64_w, i32_w]); rfl))) | (refine c_off rfl rfl (by rfl) (a' := ?_) ?_ ?_; rotate_left; (focus ((try simp only [Act.put, List.setIfInBounds_toArray, List.set_cons_zero, List.set_cons_succ, i64_w, i32_w]); rfl))))
          (refine c_held rfl rfl (by rfl) (HJ9.out) (v := ?_) ?_ (a' := ?_) ?_ ?_; rotate_left; (focus (intro w' hS'; have z0 := cell_below B0.out hS'; have z1 := cell_below B1.out hS'; have z2 := cell_below B2.out hS'; have z3 := cell_below B3.out hS'; go_simp; with_reducible rfl)); rotate_left; (focus ((try simp only [Act.put, List.setIfInBounds_toArray, List.set_cons_zero, List.set_cons_succ, i64_w, i32_w]); rfl)))
          (refine c_cell rfl rfl (by rfl) (HJ9.out) 31 (.tmp 75) rfl (⟨gb, 0, none⟩) rfl (.slice (some bd) gs.length d) (fun w' hS' => cell_below R02.out hS') Try.underlying31 rfl (a' := ?_) ?_ ?_; rotate_left; (focus ((try simp only [Act.put, List.setIfInBounds_toArray, List.set_cons_zero, List.set_cons_succ, i64_w, i32_w]); rfl)))
          repeat (first | (refine c_pure rfl rfl (by rfl) (v := ?_) ?_ (a' := ?_) ?_ ?_; rotate_left; (focus (intro w'; go_simp; with_reducible rfl)); rotate_left; (focus ((try simp only [Act.put, List.setIfInBounds_toArray, List.set_cons_zero, List.set_cons_succ, i64_w, i32_w]); rfl))) | (refine c_off rfl rfl (by rfl) (a' := ?_) ?_ ?_; rotate_left; (focus ((try simp only [Act.put, List.setIfInBounds_toArray, List.set_cons_zero, List.set_cons_succ, i64_w, i32_w]); rfl))))
          (refine c_cell rfl rfl (by rfl) (HJ9.out) 38 (.tmp 78) rfl (bd.add i) rfl (.slice (some bf) f2.length d0) (fun w' hS' => cell_below E01.out hS') Try.underlying38 rfl (a' := ?_) ?_ ?_; rotate_left; (focus ((try simp only [Act.put, List.setIfInBounds_toArray, List.set_cons_zero, List.set_cons_succ, i64_w, i32_w]); rfl)))
          repeat (first | (refine c_pure rfl rfl (by rfl) (v := ?_) ?_ (a' := ?_) ?_ ?_; rotate_left; (focus (intro w'; go_simp; with_reducible rfl)); rotate_left; (focus ((try simp only [Act.put, List.setIfInBounds_toArray, List.set_cons_zero, List.set_cons_succ, i64_w, i32_w]); rfl))) | (refine c_off rfl rfl (by rfl) (a' := ?_) ?_ ?_; rotate_left; (focus ((try simp only [Act.put, List.setIfInBounds_toArray, List.set_cons_zero, List.set_cons_succ, i64_w, i32_w]); rfl))))
          (refine c_held rfl rfl (by rfl) (HJ9.out) (v := ?_) ?_ (a' := ?_) ?_ ?_; rotate_left; (focus (intro w' hS'; have z0 := cell_below D0.out hS'; have z1 := cell_below D1.out hS'; have z2 := cell_below D2.out hS'; have z3 := cell_below D3.out hS'; go_simp; with_reducible rfl)); rotate_left; (focus ((try simp only [Act.put, List.setIfInBounds_toArray, List.set_cons_zero, List.set_cons_succ, i64_w, i32_w]); rfl)))
          refine c_two rfl rfl (fun K hK => ?_) (fun K hK => ?_)
          · go_simp
            refine hK _ _ ⟨fun h => below_alloc h _, ?_⟩
            clear hK K
            refine op_of rfl (fun K hK => ?_)
            go_simp
            refine hK _ _ ⟨fun h => below_alloc h _, ?_⟩
            clear hK K
            have ZA := Aside0.mk (blk_alloc (heap_alloc_new w6 (.cells #[.int .i64 0, .int .i64 0, .int .i64 0, .int .i64 0] 26)) (.cells #[.int .i64 0, .int .i64 0, .int .i64 0, .int .i64 0] 26))
            have ZB := Aside0.mk (heap_alloc_new (w6.alloc (.cells #[.int .i64 0, .int .i64 0, .int .i64 0, .int .i64 0] 26)) (.cells #[.int .i64 0, .int .i64 0, .int .i64 0, .int .i64 0] 26))
            rw [World.size_alloc] at ZB
            have HJ8 := Aside0.mk (below_two HJ9.out h16 (.cells #[.int .i64 0, .int .i64 0, .int .i64 0, .int .i64 0] 26) (.cells #[.int .i64 0, .int .i64 0, .int .i64 0, .int .i64 0] 26))
            clear HJ9
            revert ZA ZB HJ8
            generalize (w6.alloc (.cells #[.int .i64 0, .int .i64 0, .int .i64 0, .int .i64 0] 26)).alloc (.cells #[.int .i64 0, .int .i64 0, .int .i64 0, .int .i64 0] 26) = w8
            intro ZA ZB HJ8
            (refine c_norm (a' := ?_) ?_ ?_; rotate_left; (focus ((try simp only [Act.put, List.setIfInBounds_toArray, List.set_cons_zero, List.set_cons_succ, i64_w, i32_w]); rfl)))
            refine c_eff rfl (fun K hK => ?_)
            rw [if_pos (by rfl)]
            refine wp_store_row 26 (.tmp 7) (.tmp 74) rfl w6.heap.size #[.int .i64 x.f0, .int .i64 x.f1, .int .i64 x.f2, .int .i64 x.f3] rfl rfl 26 _ ZA.out info26 rfl (by simp [Value.oneCell']) ?_
            refine hK _ _ (fun h => below_setRow h (by omega) _) ?_
            clear hK K
            have X1 := Aside0.mk (setRow_heap w8 w6.heap.size _ #[.int .i64 x.f0, .int .i64 x.f1, .int .i64 x.f2, .int .i64 x.f3] 26 (0, 0) ZA.out)
            have Z81 := Aside0.mk ((setRow_other w8 w6.heap.size (w6.heap.size + 1) #[.int .i64 x.f0, .int .i64 x.f1, .int .i64 x.f2, .int .i64 x.f3] (by omega)).trans ZB.out)
            have HJ7 := Aside0.mk (below_setRow HJ8.out (show w1.heap.size ≤ w6.heap.size by omega) #[.int .i64 x.f0, .int .i64 x.f1, .int .i64 x.f2, .int .i64 x.f3])
            revert X1 Z81 HJ7
            generalize w8.setRow w6.heap.size #[.int .i64 x.f0, .int .i64 x.f1, .int .i64 x.f2, .int .i64 x.f3] = w10
            intro X1 Z81 HJ7
            clear HJ8 ZA ZB
            (refine c_norm (a' := ?_) ?_ ?_; rotate_left; (focus ((try simp only [Act.put, List.setIfInBounds_toArray, List.set_cons_zero, List.set_cons_succ, i64_w, i32_w]); rfl)))
            refine c_eff rfl (fun K hK => ?_)
            rw [if_pos (by rfl)]
            refine wp_store_row 26 (.tmp 8) (.tmp 82) rfl (w6.heap.size + 1) #[.int .i64 y.f0, .int .i64 y.f1, .int .i64 y.f2, .int .i64 y.f3] rfl rfl 26 _ Z81.out info26 rfl (by simp [Value.oneCell']) ?_
            refine hK _ _ (fun h => below_setRow h (by omega) _) ?_
            clear hK K
            have Y1 := Aside0.mk (setRow_heap w10 (w6.heap.size + 1) _ #[.int .i64 y.f0, .int .i64 y.f1, .int .i64 y.f2, .int .i64 y.f3] 26 (0, 0) Z81.out)
            have X2 := Aside0.mk ((setRow_other w10 (w6.heap.size + 1) w6.heap.size #[.int .i64 y.f0, .int .i64 y.f1, .int .i64 y.f2, .int .i64 y.f3] (by omega)).trans X1.out)
            have HJ9 := Aside0.mk (below_setRow HJ7.out (show w1.heap.size ≤ (w6.heap.size + 1) by omega) #[.int .i64 y.f0, .int .i64 y.f1, .int .i64 y.f2, .int .i64 y.f3])
            have HB9 := Aside0.mk (below_step HB.out HJ9.out)
            revert Y1 X2 HJ9 HB9
            generalize w10.setRow (w6.heap.size + 1) #[.int .i64 y.f0, .int .i64 y.f1, .int .i64 y.f2, .int .i64 y.f3] = w11
            intro Y1 X2 HJ9 HB9
            clear X1 Z81 HJ7
            (refine c_norm (a' := ?_) ?_ ?_; rotate_left; (focus ((try simp only [Act.put, List.setIfInBounds_toArray, List.set_cons_zero, List.set_cons_succ, i64_w, i32_w]); rfl)))
            refine c_done ?_
            obtain ⟨x0, x1, x2, x3⟩ := ins_reads X2.out
            obtain ⟨y0, y1, y2, y3⟩ := ins_reads Y1.out
            clear h16 h10 hix2 hix3 hixa hixb
            by_cases ef0 : x.f0 = y.f0
            case neg =>
              have t0 : (x.f0 != y.f0) = true := bne_iff_ne.mpr ef0
              have E := Aside0.mk (pg_ne HBB.out (.inl (fun he => ef0 (by rw [HXY.out he]))))
              clear ef0
              go_wp2_with (fail)
              go_ret
              exact ⟨by rw [E.out]; rfl, HB9.out⟩
            have t0 : (x.f0 != y.f0) = false := by rw [ef0]; exact bne_self_eq_false _
            by_cases ef1 : x.f1 = y.f1
            case neg =>
              have t1 : (x.f1 != y.f1) = true := bne_iff_ne.mpr ef1
              have E := Aside0.mk (pg_ne HBB.out (.inl (fun he => ef1 (by rw [HXY.out he]))))
              clear ef0 ef1
              go_wp2_with (fail)
              go_ret
              exact ⟨by rw [E.out]; rfl, HB9.out⟩
            have t1 : (x.f1 != y.f1) = false := by rw [ef1]; exact bne_self_eq_false _
            by_cases ef2 : x.f2 = y.f2
            case neg =>
              have t2 : (x.f2 != y.f2) = true := bne_iff_ne.mpr ef2
              have E := Aside0.mk (pg_ne HBB.out (.inl (fun he => ef2 (by rw [HXY.out he]))))
              clear ef0 ef1 ef2
              go_wp2_with (fail)
              go_ret
              exact ⟨by rw [E.out]; rfl, HB9.out⟩
            have t2 : (x.f2 != y.f2) = false := by rw [ef2]; exact bne_self_eq_false _
            by_cases ef3 : x.f3 = y.f3
            case neg =>
              have t3 : (x.f3 != y.f3) = true := bne_iff_ne.mpr ef3
              have E := Aside0.mk (pg_ne HBB.out (.inl (fun he => ef3 (by rw [HXY.out he]))))
              clear ef0 ef1 ef2 ef3
              go_wp2_with (fail)
              go_ret
              exact ⟨by rw [E.out]; rfl, HB9.out⟩
            have t3 : (x.f3 != y.f3) = false := by rw [ef3]; exact bne_self_eq_false _
            have HN := Aside0.mk (HST.out (s26_ext ef0 ef1 ef2 ef3))
            clear ef0 ef1 ef2 ef3
            go_wp2_with (fail)
            go_roundw
            case rel => exact ⟨j + 1, num_next HW6.out, Nat.succ_le_of_lt hjl, HN, HJ9⟩
            case measure => exact meas_next hjl HW6.out
          · go_simp
            refine hK _ _ ⟨fun h => below_alloc h _, ?_⟩
            clear hK K
            refine op_of rfl (fun K hK => ?_)
            go_simp
            refine hK _ _ ⟨fun h => below_alloc h _, ?_⟩
            clear hK K
            have ZA := Aside0.mk (blk_alloc (heap_alloc_new w6 (.cells #[.int .i64 0, .int .i64 0, .int .i64 0, .int .i64 0] 26)) (.cells #[.int .i64 0, .int .i64 0, .int .i64 0, .int .i64 0] 26))
            have ZB := Aside0.mk (heap_alloc_new (w6.alloc (.cells #[.int .i64 0, .int .i64 0, .int .i64 0, .int .i64 0] 26)) (.cells #[.int .i64 0, .int .i64 0, .int .i64 0, .int .i64 0] 26))
            rw [World.size_alloc] at ZB
            have HJ8 := Aside0.mk (below_two HJ9.out h16 (.cells #[.int .i64 0, .int .i64 0, .int .i64 0, .int .i64 0] 26) (.cells #[.int .i64 0, .int .i64 0, .int .i64 0, .int .i64 0] 26))
            clear HJ9
            revert ZA ZB HJ8
            generalize (w6.alloc (.cells #[.int .i64 0, .int .i64 0, .int .i64 0, .int .i64 0] 26)).alloc (.cells #[.int .i64 0, .int .i64 0, .int .i64 0, .int .i64 0] 26) = w8
            intro ZA ZB HJ8
            (refine c_norm (a' := ?_) ?_ ?_; rotate_left; (focus ((try simp only [Act.put, List.setIfInBounds_toArray, List.set_cons_zero, List.set_cons_succ, i64_w, i32_w]); rfl)))
            refine c_eff rfl (fun K hK => ?_)
            rw [if_pos (by rfl)]
            refine wp_store_row 26 (.tmp 7) (.tmp 74) rfl (w6.heap.size + 1) #[.int .i64 x.f0, .int .i64 x.f1, .int .i64 x.f2, .int .i64 x.f3] rfl rfl 26 _ ZB.out info26 rfl (by simp [Value.oneCell']) ?_
            refine hK _ _ (fun h => below_setRow h (by omega) _) ?_
            clear hK K
            have X1 := Aside0.mk (setRow_heap w8 (w6.heap.size + 1) _ #[.int .i64 x.f0, .int .i64 x.f1, .int .i64 x.f2, .int .i64 x.f3] 26 (0, 0) ZB.out)
            have Z81 := Aside0.mk ((setRow_other w8 (w6.heap.size + 1) w6.heap.size #[.int .i64 x.f0, .int .i64 x.f1, .int .i64 x.f2, .int .i64 x.f3] (by omega)).trans ZA.out)
            have HJ7 := Aside0.mk (below_setRow HJ8.out (show w1.heap.size ≤ (w6.heap.size + 1) by omega) #[.int .i64 x.f0, .int .i64 x.f1, .int .i64 x.f2, .int .i64 x.f3])
            revert X1 Z81 HJ7
            generalize w8.setRow (w6.heap.size + 1) #[.int .i64 x.f0, .int .i64 x.f1, .int .i64 x.f2, .int .i64 x.f3] = w10
            intro X1 Z81 HJ7
            clear HJ8 ZA ZB
            (refine c_norm (a' := ?_) ?_ ?_; rotate_left; (focus ((try simp only [Act.put, List.setIfInBounds_toArray, List.set_cons_zero, List.set_cons_succ, i64_w, i32_w]); rfl)))
            refine c_eff rfl (fun K hK => ?_)
            rw [if_pos (by rfl)]
            refine wp_store_row 26 (.tmp 8) (.tmp 82) rfl w6.heap.size #[.int .i64 y.f0, .int .i64 y.f1, .int .i64 y.f2, .int .i64 y.f3] rfl rfl 26 _ Z81.out info26 rfl (by simp [Value.oneCell']) ?_
            refine hK _ _ (fun h => below_setRow h (by omega) _) ?_
            clear hK K
            have Y1 := Aside0.mk (setRow_heap w10 w6.heap.size _ #[.int .i64 y.f0, .int .i64 y.f1, .int .i64 y.f2, .int .i64 y.f3] 26 (0, 0) Z81.out)
            have X2 := Aside0.mk ((setRow_other w10 w6.heap.size (w6.heap.size + 1) #[.int .i64 y.f0, .int .i64 y.f1, .int .i64 y.f2, .int .i64 y.f3] (by omega)).trans X1.out)
            have HJ9 := Aside0.mk (below_setRow HJ7.out (show w1.heap.size ≤ w6.heap.size by omega) #[.int .i64 y.f0, .int .i64 y.f1, .int .i64 y.f2, .int .i64 y.f3])
            have HB9 := Aside0.mk (below_step HB.out HJ9.out)
            revert Y1 X2 HJ9 HB9
            generalize w10.setRow w6.heap.size #[.int .i64 y.f0, .int .i64 y.f1, .int .i64 y.f2, .int .i64 y.f3] = w11
            intro Y1 X2 HJ9 HB9
            clear X1 Z81 HJ7
            (refine c_norm (a' := ?_) ?_ ?_; rotate_left; (focus ((try simp only [Act.put, List.setIfInBounds_toArray, List.set_cons_zero, List.set_cons_succ, i64_w, i32_w]); rfl)))
            refine c_done ?_
            obtain ⟨x0, x1, x2, x3⟩ := ins_reads X2.out
            obtain ⟨y0, y1, y2, y3⟩ := ins_reads Y1.out
            clear h16 h10 hix2 hix3 hixa hixb
            by_cases ef0 : x.f0 = y.f0
            case neg =>
              have t0 : (x.f0 != y.f0) = true := bne_iff_ne.mpr ef0
              have E := Aside0.mk (pg_ne HBB.out (.inl (fun he => ef0 (by rw [HXY.out he]))))
              clear ef0
              go_wp2_with (fail)
              go_ret
              exact ⟨by rw [E.out]; rfl, HB9.out⟩
            have t0 : (x.f0 != y.f0) = false := by rw [ef0]; exact bne_self_eq_false _
            by_cases ef1 : x.f1 = y.f1
            case neg =>
              have t1 : (x.f1 != y.f1) = true := bne_iff_ne.mpr ef1
              have E := Aside0.mk (pg_ne HBB.out (.inl (fun he => ef1 (by rw [HXY.out he]))))
              clear ef0 ef1
              go_wp2_with (fail)
              go_ret
              exact ⟨by rw [E.out]; rfl, HB9.out⟩
            have t1 : (x.f1 != y.f1) = false := by rw [ef1]; exact bne_self_eq_false _
            by_cases ef2 : x.f2 = y.f2
            case neg =>
              have t2 : (x.f2 != y.f2) = true := bne_iff_ne.mpr ef2
              have E := Aside0.mk (pg_ne HBB.out (.inl (fun he => ef2 (by rw [HXY.out he]))))
              clear ef0 ef1 ef2
              go_wp2_with (fail)
              go_ret
              exact ⟨by rw [E.out]; rfl, HB9.out⟩
            have t2 : (x.f2 != y.f2) = false := by rw [ef2]; exact bne_self_eq_false _
            by_cases ef3 : x.f3 = y.f3
            case neg =>
              have t3 : (x.f3 != y.f3) = true := bne_iff_ne.mpr ef3
              have E := Aside0.mk (pg_ne HBB.out (.inl (fun he => ef3 (by rw [HXY.out he]))))
              clear ef0 ef1 ef2 ef3
              go_wp2_with (fail)
              go_ret
              exact ⟨by rw [E.out]; rfl, HB9.out⟩
            have t3 : (x.f3 != y.f3) = false := by rw [ef3]; exact bne_self_eq_false _
            have HN := Aside0.mk (HST.out (s26_ext ef0 ef1 ef2 ef3))
            clear ef0 ef1 ef2 ef3
            go_wp2_with (fail)
            go_roundw
            case rel => exact ⟨j + 1, num_next HW6.out, Nat.succ_le_of_lt hjl, HN, HJ9⟩
            case measure => exact meas_next hjl HW6.out
        · have hje : j = f.length := by omega
          have HN := Aside0.mk (show fs.take (i + 1) = gs.take (i + 1) from HSTO.out (take_eq_all HEL.out (by have h := HI2.out; rw [hje] at h; exact h)))
          have hjd : decide (j < f.length) = false := decide_eq_false hjl
          have hjd2 : decide ((j : Int) < (f.length : Int)) = false := decide_eq_false (fun h => hjl (Int.ofNat_lt.1 h))
          clear hj hje hjl
          have HW5 := Aside0.mk (show wrap64 ((i : Int) + 1) = (i : Int) + 1 from wrap_next hlt HC.out.2.1)
          go_wp2_with (fail)
          go_roundw
          case rel => exact ⟨i + 1, num_next HW5.out, Nat.succ_le_of_lt hlt, HN, HJ9⟩
          case measure => exact meas_next hlt HW5.out
    · have hie : i = fs.length := by omega
      subst hie
      have E := Aside0.mk (btrue HBB.out (by obtain ⟨h1, h2, h3, h4⟩ := HE.out; rw [h1, h2, h3, take_eq_all h4 HI.out]))
      have HB9 := Aside0.mk (below_step HB.out HJ.out)
      have r0 := (ps_reads (blk_below S0.out HJ.out)).1
      clear hi hlt HJ
      go_wp2_with (fail)
      go_ret
      exact ⟨by rw [E.out]; rfl, HB9.out⟩
end Go.Proofs.Ytmofaahhnokohaa.Code
