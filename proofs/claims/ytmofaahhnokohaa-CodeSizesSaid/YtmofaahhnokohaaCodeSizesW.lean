/- The walk of CodeSizes. -/
import Derived.Test.YtmofaahhnokohaaCode9
namespace Go.Proofs.Ytmofaahhnokohaa.CodeSizes
set_option linter.unusedSimpArgs false
set_option linter.unusedVariables false
open Go.RowKit Go.Proofs.YtmofaahhnokohaaW.PrintWords Go.Proofs.YtmofaahhnokohaaW.PrintLast Go.Proofs.YtmofaahhnokohaaW.PrintMore PCodeAll Go.Proofs.YtmofaahhnokohaaW.CanonE Go.Proofs.Ytmofaahhnokohaa.Code
attribute [local go_sem] max2_mx min2_mn max_two min_two max_three min_three max_four min_four

theorem cs_eq1 (X L C0 : Nat) : Value.int .i64 (8 + (X : Int) + 1 + 4 * (L : Int) + 2 * (C0 : Int) + 2) = Value.int .i64 (8 + (X : Int) + 1 + 4 * (L : Int) + 2 * ((C0 + 1 : Nat) : Int)) := by
  rw [show (8 + (X : Int) + 1 + 4 * (L : Int) + 2 * (C0 : Int) + 2) = (8 + (X : Int) + 1 + 4 * (L : Int) + 2 * ((C0 + 1 : Nat) : Int)) by omega]
theorem cs_eq2 (X L C : Nat) : Value.int .i64 (8 + (X : Int) + 1 + 4 * (L : Int) + 2 * (C : Int)) = Value.int .i64 (8 + ((X : Int) + 1 + 4 * L + 2 * C)) := by
  rw [show (8 + (X : Int) + 1 + 4 * (L : Int) + 2 * (C : Int)) = (8 + ((X : Int) + 1 + 4 * L + 2 * C)) by omega]
theorem big13 (fu de fl : Int) : errOf ⟨List.replicate 13 [], fu, de, fl⟩ = 2 := err_long1 (by show 12 < (List.replicate 13 ([] : List S26)).length; rw [List.length_replicate]; omega)
theorem big41 (fu de fl : Int) : errOf ⟨[List.replicate 41 z26], fu, de, fl⟩ = 2 := err_long2 (by show ¬ 12 < 1; omega) (by
  show [List.replicate 41 z26].any longF = true
  decide)
theorem cs_meas {n j : Nat} (h : j < n) : n - ((j : Int) + 1).toNat < n - ((j : Int)).toNat := by omega
theorem lit_one {w : World} {g : Nat} {A : Option Addr} {c : Nat} {f : List S26} (h : w.heap[g]? = some (.cells #[.slice A f.length c] 38 (0, 0))) (hc : f.length ≤ c) (hC : Kd.C k26 w A f.length f) :
    Kd.C (Kd.slice 26 k26) w (some ⟨g, 0, none⟩) 1 [f] := by
  refine ⟨rfl, by omega, fun _ => ⟨⟨g, 0, none⟩, rfl, fun j p hj => ?_⟩⟩
  have hj0 : j = 0 := by
    have := (List.getElem?_eq_some_iff.1 hj).1
    simp at this
    omega
  subst hj0
  have hp : f = p := by simpa using hj
  subst hp
  refine ⟨[.slice A f.length c], rfl, ⟨A, c, rfl, hc, hC⟩, fun i u hi => ?_⟩
  have hi0 : i = 0 := by
    have := (List.getElem?_eq_some_iff.1 hi).1
    simp at this
    omega
  subst hi0
  have hu : Value.slice A f.length c = u := by simpa using hi
  subst hu
  exact cell_of_row w g 0 _ 38 (0, 0) h
set_option maxHeartbeats 1000000 in
theorem CodeSizes_calls (n : List Int) (A : Option Addr) (c : Nat) (w : World) (hC : (Kd.int .i64).C w A n.length n) (hc : n.length ≤ c) :
    Calls Try.prog 4 #[.slice A n.length c] w fun e w' => e = .returned (.bool true) ∧ Below w.heap.size w w' := by
  by_cases h100 : 100 < n.length
  · have h100' : decide ((100 : Int) < (n.length : Int)) = true := decide_eq_true (by omega)
    clear hC
    go_enter Try.func4, Try.ntmps4
    go_wp2_with (fail)
    refine (awake_calls _).mono ?_
    rintro e w1 ⟨rfl, hb⟩
    have HB := Aside0.mk hb
    clear hb
    go_wp2_with (fail)
    go_ret
    exact ⟨rfl, HB.out⟩
  have h100' : decide ((100 : Int) < (n.length : Int)) = false := decide_eq_false (by omega)
  clear h100
  have HC := Aside0.mk hC
  clear hC
  go_enter Try.func4, Try.ntmps4
  go_wp2_with (fail)
  refine (Prog_calls n A c true _ HC.out hc).mono ?_
  rintro e w1 ⟨p, U, rfl, hp, hR, hb⟩
  obtain ⟨A1, c1, rfl, hc1, hC1⟩ := RP.reads hR
  have hg : w.heap.size ≤ w1.heap.size := hb.size
  have HP := Aside0.mk hp
  have S1 := Aside0.mk (heap_alloc_new w1 (.cells #[.slice A1 p.fs.length c1, .int .i64 p.fu, .int .i64 p.de, .int .i64 p.fl] 33))
  have HB := Aside0.mk (hb.alloc hb.size (.cells #[.slice A1 p.fs.length c1, .int .i64 p.fu, .int .i64 p.de, .int .i64 p.fl] 33))
  have HC1 := Aside0.mk (Kd.C_below hC1 (below_alloc (Below.refl _ _) (.cells #[.slice A1 p.fs.length c1, .int .i64 p.fu, .int .i64 p.de, .int .i64 p.fl] 33)))
  clear HC hp hR hb hC1 hc1 h100' hc
  obtain ⟨⟨p0, p1, p2, p3⟩, ⟨q0, q1, q2, q3⟩⟩ := row4' S1.out
  go_wp2_with (fail)
  refine (Put_calls p A1 c1 _ HC1.out).mono ?_
  rintro e w2 ⟨rfl, hb2⟩
  rw [prog_err HP.out, if_pos rfl]
  have HC2 := Aside0.mk (Kd.C_below HC1.out hb2)
  have S2 := Aside0.mk (blk_below S1.out hb2)
  have HB2 := Aside0.mk (below_step HB.out hb2)
  have HSZ := Aside0.mk (strOfNums_size (putB p))
  clear p0 p1 p2 p3 q0 q1 q2 q3 hb2 HC1 S1 HB
  obtain ⟨str, hstr⟩ : ∃ str, strOfNums (putB p) = str := ⟨_, rfl⟩
  rw [hstr] at HSZ
  rw [hstr]
  clear hstr
  obtain ⟨⟨p0, p1, p2, p3⟩, ⟨q0, q1, q2, q3⟩⟩ := row4' S2.out
  have H4 := Aside0.mk HP.out.len
  have H11 := Aside0.mk (show ∀ f, f ∈ p.fs → f.length ≤ 11 from fun f hf => (HP.out.funs f hf).len.2)
  revert p0 p1 p2 p3 q0 q1 q2 q3 S2 hg
  generalize w1.heap.size = g3
  intro hg S2 p0 p1 p2 p3 q0 q1 q2 q3
  go_wp2_with (fail)
  go_loopw [6, 7] (fun u6 u7 w' => ∃ i : Nat, u7 = .int .i64 i ∧ i ≤ p.fs.length ∧ u6 = .int .i64 (8 + (((p.fs.take i).flatMap funB).length : Int)) ∧ w' = w2) (fun _ u7 _ => p.fs.length - (intOf u7).toNat)
  case atStart => exact ⟨0, rfl, by omega, rfl, rfl⟩
  case round =>
    obtain ⟨i, rfl, hi, rfl, rfl⟩ := hrel
    by_cases hlt : i < p.fs.length
    · obtain ⟨ad, A0, c0, rfl, a0, _, hA0⟩ := at_L2 HC2.out i (by omega) (by omega)
      rw [Int.toNat_natCast, rd_L2_at p.fs i hlt] at a0
      rw [rd_L2_at p.fs i hlt] at hA0
      have hix := fun (W : World) => ix31 ad p.fs.length c1 (i : Int) i W (by omega) (by omega) (Int.toNat_natCast i)
      have hst := fm_step funB p.fs i hlt
      have hf11 := H11.out _ (List.getElem_mem hlt)
      obtain ⟨f, hf⟩ : ∃ f, p.fs[i]'hlt = f := ⟨_, rfl⟩
      rw [hf] at a0 hA0 hst hf11
      have HF := Aside0.mk hA0
      have hX := funs_size p.fs H11.out i
      have hlen := H4.out
      obtain ⟨X, hXe⟩ : ∃ X : Nat, ((p.fs.take i).flatMap funB).length = X := ⟨_, rfl⟩
      rw [hXe] at hX
      rw [hXe]
      have HST := Aside0.mk (show (((p.fs.take (i + 1)).flatMap funB).length : Int) = X + 1 + 4 * f.length + 2 * consts f by rw [hst, List.length_append, hXe, funB_size]; omega)
      have hX9 : X ≤ 300 := by omega
      clear hA0 hf hst hX hXe hlen
      go_wp2_with (fail)
      go_loopw [6, 8] (fun u6 u8 w' => ∃ j : Nat, u8 = .int .i64 j ∧ j ≤ f.length ∧ u6 = .int .i64 (8 + (X : Int) + 1 + 4 * (f.length : Int) + 2 * (consts (f.take j) : Int)) ∧ w' = wr) (fun _ u8 _ => f.length - (intOf u8).toNat)
      case atStart => exact ⟨0, rfl, by omega, by simp [consts], rfl⟩
      case round =>
        obtain ⟨j, rfl, hj, rfl, rfl⟩ := hrel
        by_cases hjl : j < f.length
        · obtain ⟨af, hA, b0, b1, b2, b3⟩ := at_T26 HF.out j (by omega) (by omega)
          subst hA
          obtain ⟨nn, hnn⟩ : ∃ nn : Nat, ((j : Int)).toNat * 4 = nn := ⟨_, rfl⟩
          rw [hnn, rd_T26_at f j hjl] at b0 b1 b2 b3
          have hix2 := fun (W : World) => ix38 af f.length c0 (j : Int) nn W (by omega) (by omega) hnn
          have hcs := consts_step f j hjl
          have hcl := consts_le f j
          obtain ⟨x, hx⟩ : ∃ x, f[j]'hjl = x := ⟨_, rfl⟩
          rw [hx] at b0 b1 b2 b3 hcs
          obtain ⟨C0, hC0⟩ : ∃ C0, consts (f.take j) = C0 := ⟨_, rfl⟩
          rw [hC0] at hcs hcl
          rw [hC0]
          have HCS := Aside0.mk hcs
          clear hcs hC0 hx hnn
          by_cases h1 : x.f0 = 1
          · have t1 : (x.f0 == 1) = true := beq_iff_eq.mpr h1
            have HCC := Aside0.mk (show consts (f.take (j + 1)) = C0 + 1 by rw [HCS.out, if_pos h1])
            clear h1 HCS
            go_wp2_with (fail)
            exact ⟨⟨j + 1, rfl, Nat.succ_le_of_lt hjl, by rw [HCC.out]; exact cs_eq1 _ _ _, trivial⟩, by simp only [intOf]; exact cs_meas hjl⟩
          · have t1 : (x.f0 == 1) = false := beq_eq_false_iff_ne.mpr h1
            have HCC := Aside0.mk (show consts (f.take (j + 1)) = C0 by rw [HCS.out, if_neg h1, Nat.add_zero])
            clear h1 HCS
            go_wp2_with (fail)
            exact ⟨⟨j + 1, rfl, Nat.succ_le_of_lt hjl, by rw [HCC.out], trivial⟩, by simp only [intOf]; exact cs_meas hjl⟩
        · have hjl' : ((j : Int) < (f.length : Int)) = False := by simp; omega
          have hje : f.take j = f := List.take_of_length_le (by omega)
          rw [hje]
          clear hje
          have hwi : wrap64 ((i : Int) + 1) = (i : Int) + 1 := wrap64_id _ (by have := H4.out; omega)
          go_wp2_with (fail)
          rw [hwi]
          exact ⟨⟨i + 1, rfl, Nat.succ_le_of_lt hlt, by rw [HST.out]; exact cs_eq2 _ _ _, trivial⟩, by simp only [intOf]; exact cs_meas hlt⟩
    · obtain rfl : i = p.fs.length := by omega
      rw [List.take_length]
      have HE := Aside0.mk (show (8 + ((p.fs.flatMap funB).length : Int)) = (str.size : Int) by rw [HSZ.out, putB_size]; push_cast; rfl)
      rw [HE.out]
      clear hi hlt
      go_wp2_with (at_make; refine Kd.R_make (Kd.slice 26 k26) (w0 := w) w.heap.size 38 rfl (N := 63) rfl 31 _ _ rfl 13 rfl rfl Try.underlying31 (.slice none 0 0) 24 info38z rfl (by decide) (by decide) ([] : List S26) (ok := fun _ => True) (okp := fun _ => True) ⟨_, rfl, Kd.R_nil _ _ _ _ _⟩ (fun _ _ => trivial) trivial (by decide) (by decide) HB2.out HB2.out.size ?_; intro v1 w3 ho hb3 hg3 _; obtain ⟨A9, c9, h9⟩ := Kd.R_slice ho; (replace h9 : v1 = .slice A9 13 c9 := h9); subst h9; have HO3 := Aside0.mk ho; have HB3 := Aside0.mk hb3; have S3 := Aside0.mk ((hg3.block g3 (blk_lt S2.out) (by simp)).trans S2.out); clear p0 p1 p2 p3 q0 q1 q2 q3 ho hb3 hg3; obtain ⟨⟨p0, p1, p2, p3⟩, ⟨q0, q1, q2, q3⟩⟩ := row4' S3.out)
      refine (Put_calls ⟨List.replicate 13 [], p.fu, p.de, p.fl⟩ A9 c9 _ (Kd.R_reads' (Kd.R_set HO3.out S3.out (by decide) 0 _)).2.2).mono ?_
      rintro e w4 ⟨rfl, hb4⟩
      rw [big13, if_neg (by decide)]
      have S4 := Aside0.mk (blk_below (blk_put S3.out 0 (.slice A9 13 c9) rfl) hb4)
      have HB4 := Aside0.mk (below_step (HB3.out.setCell (p := ⟨g3, 0, none⟩) hg _) hb4)
      clear p0 p1 p2 p3 q0 q1 q2 q3 hb4 HB3 HO3 S3 HC2
      go_wp2_with (at_make; refine Kd.R_make k26 (w0 := w) w.heap.size 26 rfl (N := 70) rfl 38 _ _ rfl 41 rfl rfl Try.underlying38 (.agg #[.int .i64 0, .int .i64 0, .int .i64 0, .int .i64 0]) 32 info26z rfl (by decide) (by decide) z26 (ok := fun _ => True) (okp := fun _ => True) (k26_mkM _ _ _ z26) (fun _ _ => trivial) trivial (by decide) (by decide) HB4.out HB4.out.size ?_; intro v1 w5 ho hb5 hg5 _; obtain ⟨A8, c8, h9⟩ := Kd.R_slice ho; (replace h9 : v1 = .slice A8 41 c8 := h9); subst h9; have HO5 := Aside0.mk ho; have HB5 := Aside0.mk hb5; have S5 := Aside0.mk ((hg5.block g3 (blk_lt S4.out) (by simp)).trans S4.out); clear ho hb5 hg5; obtain ⟨⟨p0, p1, p2, p3⟩, ⟨q0, q1, q2, q3⟩⟩ := row4' (blk_alloc S5.out (.cells #[.slice A8 41 c8] 38)))
      have hlt5 := blk_lt S5.out
      have N6 : ((w5.alloc (.cells #[.slice A8 41 c8] 38)).setCell ⟨g3, 0, none⟩ (.slice (some ⟨w5.heap.size, 0, none⟩) 1 1)).heap[w5.heap.size]? = some (.cells #[.slice A8 41 c8] 38 (0, 0)) :=
        (Below.heap_setCell _ ⟨g3, 0, none⟩ _ w5.heap.size (Nat.ne_of_gt hlt5)).trans (heap_alloc_new w5 _)
      have hR6 := Kd.R_reads' (Kd.R_set (Kd.R_alloc HO5.out (.cells #[.slice A8 41 c8] 38)) (blk_alloc S5.out _) (by decide) 0 (.slice (some ⟨w5.heap.size, 0, none⟩) 1 1))
      refine (Put_calls ⟨[List.replicate 41 z26], p.fu, p.de, p.fl⟩ (some ⟨w5.heap.size, 0, none⟩) 1 _ (lit_one (f := List.replicate 41 z26) N6 hR6.2.1 hR6.2.2)).mono ?_
      rintro e w6 ⟨rfl, hb6⟩
      rw [big41, if_neg (by decide)]
      have HB6 := Aside0.mk (below_step ((below_alloc HB5.out (.cells #[.slice A8 41 c8] 38)).setCell (p := ⟨g3, 0, none⟩) hg _) hb6)
      clear p0 p1 p2 p3 q0 q1 q2 q3 hb6 N6 hR6 HB5 HO5 S5 hlt5
      have heq : ((str.size : Int) == (str.size : Int)) = true := beq_self_eq_true _
      go_wp2_with (fail)
      refine (awake_calls _).mono ?_
      rintro e w7 ⟨rfl, hb7⟩
      have HB7 := Aside0.mk (below_step HB6.out hb7)
      clear hb7
      go_wp2_with (fail)
      go_ret
      exact ⟨rfl, HB7.out⟩
end Go.Proofs.Ytmofaahhnokohaa.CodeSizes
